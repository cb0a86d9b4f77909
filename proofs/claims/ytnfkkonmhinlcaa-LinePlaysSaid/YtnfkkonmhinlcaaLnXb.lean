/- Package line: the law's do. Printed by gen_lnx.py. -/
import Derived.Test.YtnfkkonmhinlcaaLnX
namespace Go.Proofs.Ytnfkkonmhinlcaa
open Go.RowKit
set_option linter.unusedVariables false
set_option linter.unusedSimpArgs false
namespace Ln
open Run (O ROp timesR endsR dueT nextT chk chkR Fit)
section
variable {w w' W : World} {G G' Bk : Nat → Prop} {g : Nat} {vF vL : Value} {s : S}
set_option maxRecDepth 100000 in
set_option maxHeartbeats 8000000 in
theorem do_lost {k : Int} (hl : LW w G g s) (hk : Ok s k) (hk2 : k < 1000000) (h : RL w Bk vF vL s) (hBG : ∀ z, Bk z → ¬ G z) (kd gap r now : Int) (okb : Bool) (t : Str) (vo : Value) (ops : List O) (hkd : 0 ≤ kd ∧ kd ≤ 255) (hr : -9223372036854775808 ≤ r ∧ r ≤ 9223372036854775807) (ht : t.length ≤ 100000) (ho : RSl 3 ROp w Bk [vo] ops) (hol : ops.length ≤ 1000) (hkk : kd % 10 = 6) : Calls Try.prog 17 #[.pointer (some ⟨g, 0, none⟩), agL vF vL s, .agg #[.int .u8 kd, .int .u8 gap, .bool okb, .int .i64 r, .string ⟨t.toArray⟩, vo], .int .i64 now] w (DoIs w G Bk g ((lostS s now r).1)) := by
  obtain ⟨D, d3, rfl, hD1, hD2⟩ := ho.slice
  have HOP := Lib.hid ho
  have HWF := Lib.hid (Run.ops_wf ho)
  obtain ⟨ol, hol2⟩ : ∃ ol, ol = ops.length := ⟨_, rfl⟩
  have HOL := Lib.hid hol2
  have HOM := Lib.hid hol
  have HL := Lib.hid hl
  have HK := Lib.hid hk
  have HBG := Lib.hid hBG
  have hlt := hl.lt
  have HLT := Lib.hid hlt
  have HTT := Lib.hid ht
  rw [← hol2] at hD1 ⊢
  clear ho hol2 hl hk hBG hlt hol
  unfold maxLen at hD2
  have hol : ol ≤ 1000 := by rw [HOL.out]; exact HOM.out
  have HOM := HOM
  obtain ⟨b, c, j, st, n, at_, first, seq, start, was, held⟩ := s
  obtain ⟨A, c1, rfl, hA1, hA2⟩ := h.first.slice
  obtain ⟨B, d1, rfl, hB1, hB2⟩ := h.seq.slice
  have H := Lib.hid h
  clear h
  have hA1 : first.length ≤ c1 := hA1
  have hB1 : seq.length ≤ d1 := hB1
  unfold maxLen at hA2 hB2
  obtain ⟨n1, hn1⟩ : ∃ n1, n1 = first.length := ⟨_, rfl⟩
  obtain ⟨m1, hm1⟩ : ∃ m1, m1 = seq.length := ⟨_, rfl⟩
  have ag : agL (.slice A first.length c1) (.slice B seq.length d1) ⟨b, c, j, st, n, at_, first, seq, start, was, held⟩ = .agg #[.int .i64 b, .int .i64 c, .int .i64 j, .int .i64 st, .int .i64 n, .int .i64 at_, .slice A n1 c1, .slice B m1 d1, .int .i64 start, .int .i64 was, .string ⟨held.toArray⟩] := by rw [hn1, hm1]; rfl
  try simp only at ag
  rw [ag]
  have AG := Lib.hid ag
  have HN := Lib.hid hn1
  have HM := Lib.hid hm1
  rw [← hn1] at hA1
  rw [← hm1] at hB1
  clear ag hn1 hm1
  have XB := ((Blk.new w 46 #[.int .i64 b, .int .i64 c, .int .i64 j, .int .i64 st, .int .i64 n, .int .i64 at_, .slice A n1 c1, .slice B m1 d1, .int .i64 start, .int .i64 was, .string ⟨held.toArray⟩]).alloc (.cells #[.int .u8 kd, .int .u8 gap, .bool okb, .int .i64 r, .string ⟨t.toArray⟩, .slice D ol d3] 35)).alloc (.cells #[.int .i64 0, .int .i64 0, .int .i64 0, .int .i64 0, .int .i64 0, .int .i64 0, .slice none 0 0, .slice none 0 0, .int .i64 0, .int .i64 0, .string ⟨#[]⟩] 46)
  have XO := (Blk.new (w.alloc (.cells #[.int .i64 b, .int .i64 c, .int .i64 j, .int .i64 st, .int .i64 n, .int .i64 at_, .slice A n1 c1, .slice B m1 d1, .int .i64 start, .int .i64 was, .string ⟨held.toArray⟩] 46)) 35 #[.int .u8 kd, .int .u8 gap, .bool okb, .int .i64 r, .string ⟨t.toArray⟩, .slice D ol d3]).alloc (.cells #[.int .i64 0, .int .i64 0, .int .i64 0, .int .i64 0, .int .i64 0, .int .i64 0, .slice none 0 0, .slice none 0 0, .int .i64 0, .int .i64 0, .string ⟨#[]⟩] 46)
  have XR := Blk.new ((w.alloc (.cells #[.int .i64 b, .int .i64 c, .int .i64 j, .int .i64 st, .int .i64 n, .int .i64 at_, .slice A n1 c1, .slice B m1 d1, .int .i64 start, .int .i64 was, .string ⟨held.toArray⟩] 46)).alloc (.cells #[.int .u8 kd, .int .u8 gap, .bool okb, .int .i64 r, .string ⟨t.toArray⟩, .slice D ol d3] 35)) 46 #[.int .i64 0, .int .i64 0, .int .i64 0, .int .i64 0, .int .i64 0, .int .i64 0, .slice none 0 0, .slice none 0 0, .int .i64 0, .int .i64 0, .string ⟨#[]⟩]
  have F1 := (((Fr.refl No w).alloc (.cells #[.int .i64 b, .int .i64 c, .int .i64 j, .int .i64 st, .int .i64 n, .int .i64 at_, .slice A n1 c1, .slice B m1 d1, .int .i64 start, .int .i64 was, .string ⟨held.toArray⟩] 46)).alloc (.cells #[.int .u8 kd, .int .u8 gap, .bool okb, .int .i64 r, .string ⟨t.toArray⟩, .slice D ol d3] 35)).alloc (.cells #[.int .i64 0, .int .i64 0, .int .i64 0, .int .i64 0, .int .i64 0, .int .i64 0, .slice none 0 0, .slice none 0 0, .int .i64 0, .int .i64 0, .string ⟨#[]⟩] 46)
  simp only [size_alloc] at XO XR
  obtain ⟨bx, hbx⟩ : ∃ bx, w.heap.size = bx := ⟨_, rfl⟩
  obtain ⟨bo, hbo⟩ : ∃ bo, bx + 1 = bo := ⟨_, rfl⟩
  obtain ⟨br, hbr⟩ : ∃ br, bo + 1 = br := ⟨_, rfl⟩
  rw [hbx] at XB XO XR
  rw [hbo] at XO XR
  rw [hbr] at XR
  have XB := Lib.hid XB
  have XO := Lib.hid XO
  have XR := Lib.hid XR
  have F1 := Lib.hid F1
  have HBX := Lib.hid (And.intro hbx (And.intro hbo hbr))
  go_enter Try.func17, Try.ntmps17
  go_upto_region 1 with (fail)
  generalize ((w.alloc (.cells #[.int .i64 b, .int .i64 c, .int .i64 j, .int .i64 st, .int .i64 n, .int .i64 at_, .slice A n1 c1, .slice B m1 d1, .int .i64 start, .int .i64 was, .string ⟨held.toArray⟩] 46)).alloc (.cells #[.int .u8 kd, .int .u8 gap, .bool okb, .int .i64 r, .string ⟨t.toArray⟩, .slice D ol d3] 35)).alloc (.cells #[.int .i64 0, .int .i64 0, .int .i64 0, .int .i64 0, .int .i64 0, .int .i64 0, .slice none 0 0, .slice none 0 0, .int .i64 0, .int .i64 0, .string ⟨#[]⟩] 46) = w1 at XB XO XR F1 ⊢
  have hb12 : bx ≠ bo := by omega
  have hb13 : bx ≠ br := by omega
  have hb23 : bo ≠ br := by omega
  clear hbx hbo hbr
  have xo := XB.out
  have x0 := xo.cell 0
  have xf0 := xo.frozen 0
  have x1 := xo.cell 1
  have xf1 := xo.frozen 1
  have x2 := xo.cell 2
  have xf2 := xo.frozen 2
  have x3 := xo.cell 3
  have xf3 := xo.frozen 3
  have x4 := xo.cell 4
  have xf4 := xo.frozen 4
  have x5 := xo.cell 5
  have xf5 := xo.frozen 5
  have x6 := xo.cell 6
  have xf6 := xo.frozen 6
  have x7 := xo.cell 7
  have xf7 := xo.frozen 7
  have x8 := xo.cell 8
  have xf8 := xo.frozen 8
  have x9 := xo.cell 9
  have xf9 := xo.frozen 9
  have x10 := xo.cell 10
  have xf10 := xo.frozen 10
  simp only [List.getElem?_toArray, List.getElem?_cons_zero, List.getElem?_cons_succ] at x0 x1 x2 x3 x4 x5 x6 x7 x8 x9 x10
  clear xo
  have oo := XO.out
  have o0 := oo.cell 0
  have of0 := oo.frozen 0
  have o1 := oo.cell 1
  have of1 := oo.frozen 1
  have o2 := oo.cell 2
  have of2 := oo.frozen 2
  have o3 := oo.cell 3
  have of3 := oo.frozen 3
  have o4 := oo.cell 4
  have of4 := oo.frozen 4
  have o5 := oo.cell 5
  have of5 := oo.frozen 5
  simp only [List.getElem?_toArray, List.getElem?_cons_zero, List.getElem?_cons_succ] at o0 o1 o2 o3 o4 o5
  clear oo
  have RC := rlost_any (H.out.no F1.out) HK.out (Int.le_of_lt hk2) now r hr
  simp only [AG.out] at RC
  have RC := Lib.hid RC
  go_wp2_with fail
  refine RC.out.mono ?_
  have XBc := XB
  have XRc := XR
  have Fc := F1
  rintro e w2 ⟨vF, vL, rfl, hR, hf⟩
  obtain ⟨⟨s2, l2⟩, hs2⟩ : ∃ q, q = lostS ⟨b, c, j, st, n, at_, first, seq, start, was, held⟩ now r := ⟨_, rfl⟩
  rw [← hs2] at hR ⊢
  simp only at hR ⊢
  have HE2 := Lib.hid hs2
  clear hs2
  have HF12 := Lib.hid hf
  obtain ⟨b2, c2, j2, st2, n2, at2, first2, seq2, start2, was2, held2⟩ := s2
  obtain ⟨A2, g2, rfl, -, -⟩ := hR.first.slice
  obtain ⟨B2, d2, rfl, -, -⟩ := hR.seq.slice
  obtain ⟨n3, hn3⟩ : ∃ n3, n3 = first2.length := ⟨_, rfl⟩
  obtain ⟨m3, hm3⟩ : ∃ m3, m3 = seq2.length := ⟨_, rfl⟩
  have ev : agL (.slice A2 first2.length g2) (.slice B2 seq2.length d2) ⟨b2, c2, j2, st2, n2, at2, first2, seq2, start2, was2, held2⟩ = .agg #[.int .i64 b2, .int .i64 c2, .int .i64 j2, .int .i64 st2, .int .i64 n2, .int .i64 at2, .slice A2 n3 g2, .slice B2 m3 d2, .int .i64 start2, .int .i64 was2, .string ⟨held2.toArray⟩] := by rw [hn3, hm3]; rfl
  simp only at ev ⊢
  rw [ev]
  have EV := Lib.hid ev
  have HR := Lib.hid hR
  have F2 := Lib.hid (Fc.out.then_no hf)
  have XB2 := Lib.hid (XBc.out.fr hf (fun h => h))
  have XR2 := Lib.hid (XRc.out.fr hf (fun h => h))
  have hbl2 := XR2.out.lt
  have hbm2 := XB2.out.lt
  clear ev hR hf hn3 hm3
  have XO2 := Lib.hid (XO.out.fr HF12.out (fun h => h))
  clear x0 xf0 x1 xf1 x2 xf2 x3 xf3 x4 xf4 x5 xf5 x6 xf6 x7 xf7 x8 xf8 x9 xf9 x10 xf10
  clear o0 of0 o1 of1 o2 of2 o3 of3 o4 of4 o5 of5
  go_upto_region 13 with (fail)
  have XY := Lib.hid (Blk.new w2 46 #[.int .i64 b2, .int .i64 c2, .int .i64 j2, .int .i64 st2, .int .i64 n2, .int .i64 at2, .slice A2 n3 g2, .slice B2 m3 d2, .int .i64 start2, .int .i64 was2, .string ⟨held2.toArray⟩])
  have XO3 := Lib.hid (XO2.out.alloc (.cells #[.int .i64 b2, .int .i64 c2, .int .i64 j2, .int .i64 st2, .int .i64 n2, .int .i64 at2, .slice A2 n3 g2, .slice B2 m3 d2, .int .i64 start2, .int .i64 was2, .string ⟨held2.toArray⟩] 46))
  have XR3 := Lib.hid (XR2.out.alloc (.cells #[.int .i64 b2, .int .i64 c2, .int .i64 j2, .int .i64 st2, .int .i64 n2, .int .i64 at2, .slice A2 n3 g2, .slice B2 m3 d2, .int .i64 start2, .int .i64 was2, .string ⟨held2.toArray⟩] 46))
  have F23 := Lib.hid ((Fr.refl No w2).alloc (.cells #[.int .i64 b2, .int .i64 c2, .int .i64 j2, .int .i64 st2, .int .i64 n2, .int .i64 at2, .slice A2 n3 g2, .slice B2 m3 d2, .int .i64 start2, .int .i64 was2, .string ⟨held2.toArray⟩] 46))
  have FY := Lib.hid (F2.out.then_no F23.out)
  obtain ⟨by_, hby⟩ : ∃ by_, w2.heap.size = by_ := ⟨_, rfl⟩
  have hyr : by_ ≠ br := by omega
  have hry : br ≠ by_ := by omega
  have HBY := Lib.hid (show w.heap.size ≤ by_ by rw [← hby]; exact F2.out.size)
  rw [hby] at XY ⊢
  generalize w2.alloc (.cells #[.int .i64 b2, .int .i64 c2, .int .i64 j2, .int .i64 st2, .int .i64 n2, .int .i64 at2, .slice A2 n3 g2, .slice B2 m3 d2, .int .i64 start2, .int .i64 was2, .string ⟨held2.toArray⟩] 46) = wy at XY XO3 XR3 F23 FY ⊢
  clear hby
  have hbr3 := XR3.out.lt
  have hby3 := XY.out.lt
  have HBR := Lib.hid (show w.heap.size ≤ br ∧ w.heap.size ≤ bo by have := HBX.out; omega)
  have HK2 := Lib.hid (fun (X : World) (hX : Fr (fun z => G z ∨ z = br) wy X) => (show X.cell? ⟨by_, 0, none⟩ = some (.int .i64 b2) ∧ X.cell? ⟨by_, 1, none⟩ = some (.int .i64 c2) ∧ X.cell? ⟨by_, 2, none⟩ = some (.int .i64 j2) ∧ X.cell? ⟨by_, 3, none⟩ = some (.int .i64 st2) ∧ X.cell? ⟨by_, 4, none⟩ = some (.int .i64 n2) ∧ X.cell? ⟨by_, 5, none⟩ = some (.int .i64 at2) ∧ X.cell? ⟨by_, 6, none⟩ = some (.slice A2 n3 g2) ∧ X.cell? ⟨by_, 7, none⟩ = some (.slice B2 m3 d2) ∧ X.cell? ⟨by_, 8, none⟩ = some (.int .i64 start2) ∧ X.cell? ⟨by_, 9, none⟩ = some (.int .i64 was2) ∧ X.cell? ⟨by_, 10, none⟩ = some (.string ⟨held2.toArray⟩) ∧ X.cell? ⟨bo, 3, none⟩ = some (.int .i64 r) from by
    have a := XY.out.fr hX (fun e => by
      rcases e with e | e
      · have := HLT.out _ e; have := HBY.out; omega
      · omega)
    have o := XO3.out.fr hX (fun e => by
      rcases e with e | e
      · have := HLT.out _ e; have := HBR.out; omega
      · omega)
    have a0 := a.cell 0
    have a1 := a.cell 1
    have a2 := a.cell 2
    have a3 := a.cell 3
    have a4 := a.cell 4
    have a5 := a.cell 5
    have a6 := a.cell 6
    have a7 := a.cell 7
    have a8 := a.cell 8
    have a9 := a.cell 9
    have a10 := a.cell 10
    have o3 := o.cell 3
    simp only [List.getElem?_toArray, List.getElem?_cons_zero, List.getElem?_cons_succ] at a0 a1 a2 a3 a4 a5 a6 a7 a8 a9 a10 o3
    exact ⟨a0, a1, a2, a3, a4, a5, a6, a7, a8, a9, a10, o3⟩))
  have HNG := Lib.hid (show ¬ G br from fun e => by have := HLT.out _ e; have := HBR.out; omega)
  have PC := Lib.hid (fun (X : World) (hX : Fr No wy X) => lost_any (HL.out.no (FY.out.then_no hX)) HK.out hk2 now r hr)
  rw [← HE2.out] at PC
  obtain ⟨y0, y1, y2, y3, y4, y5, y6, y7, y8, y9, y10, yo3⟩ := HK2.out wy (Fr.refl _ _)
  have yf0 := XY.out.frozen 0
  have yf1 := XY.out.frozen 1
  have yf2 := XY.out.frozen 2
  have yf3 := XY.out.frozen 3
  have yf4 := XY.out.frozen 4
  have yf5 := XY.out.frozen 5
  have yf6 := XY.out.frozen 6
  have yf7 := XY.out.frozen 7
  have yf8 := XY.out.frozen 8
  have yf9 := XY.out.frozen 9
  have yf10 := XY.out.frozen 10
  have yof3 := XO3.out.frozen 3
  go_region_held3 (fun X => X.cell? ⟨by_, 0, none⟩ = some (.int .i64 b2) ∧ X.cell? ⟨by_, 1, none⟩ = some (.int .i64 c2) ∧ X.cell? ⟨by_, 2, none⟩ = some (.int .i64 j2) ∧ X.cell? ⟨by_, 3, none⟩ = some (.int .i64 st2) ∧ X.cell? ⟨by_, 4, none⟩ = some (.int .i64 n2) ∧ X.cell? ⟨by_, 5, none⟩ = some (.int .i64 at2) ∧ X.cell? ⟨by_, 6, none⟩ = some (.slice A2 n3 g2) ∧ X.cell? ⟨by_, 7, none⟩ = some (.slice B2 m3 d2) ∧ X.cell? ⟨by_, 8, none⟩ = some (.int .i64 start2) ∧ X.cell? ⟨by_, 9, none⟩ = some (.int .i64 was2) ∧ X.cell? ⟨by_, 10, none⟩ = some (.string ⟨held2.toArray⟩) ∧ X.cell? ⟨bo, 3, none⟩ = some (.int .i64 r)) ((refine HK2.out _ ?_; (repeat' (first | with_reducible assumption | with_reducible exact Fr.refl _ _ | with_reducible refine Fr.drew ?_ | with_reducible refine Fr.drewN ?_ _ | with_reducible refine Fr.setCell ?_ (.inl (.inr rfl)) _)); done)) ((go_at_call 24; refine (PC.out _ (by (repeat' (first | with_reducible assumption | with_reducible exact Fr.refl _ _ | with_reducible refine Fr.drew ?_ | with_reducible refine Fr.drewN ?_ _)))).mono ?_; rintro e w5 ⟨rfl, h5, h8⟩; have HL5 := Lib.hid h5; have HS5 := Lib.hid (show Step G _ G w5 from ⟨h8, fun k hk => .inl hk⟩); have g5 : Fr G wy w5 := (Fr.no (by (repeat' (first | with_reducible assumption | with_reducible exact Fr.refl _ _ | with_reducible refine Fr.drew ?_ | with_reducible refine Fr.drewN ?_ _))) _).trans h8 (fun b hb _ => hb); have f5 : Fr (fun z => G z ∨ z = br) wy w5 := g5.mono (fun b hb _ => .inl hb); have f56 := Lib.hid (Fr.refl No w5); have XR6 := Lib.hid (XR3.out.fr g5 HNG.out); have ro := XR6.out; have r0 := ro.cell 0; have rf0 := ro.frozen 0; have r1 := ro.cell 1; have rf1 := ro.frozen 1; have r2 := ro.cell 2; have rf2 := ro.frozen 2; have r3 := ro.cell 3; have rf3 := ro.frozen 3; have r4 := ro.cell 4; have rf4 := ro.frozen 4; have r5 := ro.cell 5; have rf5 := ro.frozen 5; have r6 := ro.cell 6; have rf6 := ro.frozen 6; have r7 := ro.cell 7; have rf7 := ro.frozen 7; have r8 := ro.cell 8; have rf8 := ro.frozen 8; have r9 := ro.cell 9; have rf9 := ro.frozen 9; have r10 := ro.cell 10; have rf10 := ro.frozen 10; simp only [List.getElem?_toArray, List.getElem?_cons_zero, List.getElem?_cons_succ] at r0 r1 r2 r3 r4 r5 r6 r7 r8 r9 r10; clear ro; clear h5 h8))
  go_wp2_with fail
  have b9 := XR6.out
  have b9 := b9.put 0 (.int .i64 b2)
  have b9 := b9.put 1 (.int .i64 c2)
  have b9 := b9.put 2 (.int .i64 j2)
  have b9 := b9.put 3 (.int .i64 st2)
  have b9 := b9.put 4 (.int .i64 n2)
  have b9 := b9.put 5 (.int .i64 at2)
  have b9 := b9.put 6 (.slice A2 n3 g2)
  have b9 := b9.put 7 (.slice B2 m3 d2)
  have b9 := b9.put 8 (.int .i64 start2)
  have b9 := b9.put 9 (.int .i64 was2)
  have b9 := b9.put 10 (.string ⟨held2.toArray⟩)
  simp only [List.setIfInBounds_toArray, List.set_cons_zero, List.set_cons_succ] at b9
  have e0 := b9.cell 0
  have e1 := b9.cell 1
  have e2 := b9.cell 2
  have e3 := b9.cell 3
  have e4 := b9.cell 4
  have e5 := b9.cell 5
  have e6 := b9.cell 6
  have e7 := b9.cell 7
  have e8 := b9.cell 8
  have e9 := b9.cell 9
  have e10 := b9.cell 10
  simp only [List.getElem?_toArray, List.getElem?_cons_zero, List.getElem?_cons_succ] at e0 e1 e2 e3 e4 e5 e6 e7 e8 e9 e10
  clear b9
  refine bodyPost_ret (v := .tuple #[.agg #[.int .i64 b2, .int .i64 c2, .int .i64 j2, .int .i64 st2, .int .i64 n2, .int .i64 at2, .slice A2 n3 g2, .slice B2 m3 d2, .int .i64 start2, .int .i64 was2, .string ⟨held2.toArray⟩], .bool true]) ?_ rfl ?_
  · simp [results, Try.f17, go_sem, e0, e1, e2, e3, e4, e5, e6, e7, e8, e9, e10]
  · rw [← HE2.out]
    refine do_end (br := br) (by rw [EV.out]) HR.out HL5.out HS5.out ?_ ?_ ?_ (fun k hk => ⟨H.out.lt k hk, HBG.out k hk⟩) HLT.out HBR.out.1 hbr3
    · (repeat with_reducible refine Fr.setCell ?_ (.inl (.inr HBR.out.1)) _)
      exact (FY.out.no _).trans g5 (fun b hb _ => .inl hb)
    · (repeat with_reducible refine Fr.setCell ?_ (.inl (.inr HBR.out.1)) _)
      exact (F23.out.no _).trans g5 (fun b hb _ => .inl hb)
    · (repeat with_reducible refine Fr.setCell (F := fun z => z = br) ?_ (.inl rfl) _)
      exact f56.out.no _
set_option maxRecDepth 100000 in
set_option maxHeartbeats 8000000 in
theorem do_tick {k : Int} (hl : LW w G g s) (hk : Ok s k) (hk2 : k < 1000000) (h : RL w Bk vF vL s) (hBG : ∀ z, Bk z → ¬ G z) (kd gap r now : Int) (okb : Bool) (t : Str) (vo : Value) (ops : List O) (hkd : 0 ≤ kd ∧ kd ≤ 255) (hr : -9223372036854775808 ≤ r ∧ r ≤ 9223372036854775807) (ht : t.length ≤ 100000) (ho : RSl 3 ROp w Bk [vo] ops) (hol : ops.length ≤ 1000) (hkk : kd % 10 = 0 ∨ kd % 10 = 1 ∨ kd % 10 = 2) : Calls Try.prog 17 #[.pointer (some ⟨g, 0, none⟩), agL vF vL s, .agg #[.int .u8 kd, .int .u8 gap, .bool okb, .int .i64 r, .string ⟨t.toArray⟩, vo], .int .i64 now] w (DoIs w G Bk g ((tickS s now).1)) := by
  obtain ⟨D, d3, rfl, hD1, hD2⟩ := ho.slice
  have HOP := Lib.hid ho
  have HWF := Lib.hid (Run.ops_wf ho)
  obtain ⟨ol, hol2⟩ : ∃ ol, ol = ops.length := ⟨_, rfl⟩
  have HOL := Lib.hid hol2
  have HOM := Lib.hid hol
  have HL := Lib.hid hl
  have HK := Lib.hid hk
  have HBG := Lib.hid hBG
  have hlt := hl.lt
  have HLT := Lib.hid hlt
  have HTT := Lib.hid ht
  rw [← hol2] at hD1 ⊢
  clear ho hol2 hl hk hBG hlt hol
  unfold maxLen at hD2
  have hol : ol ≤ 1000 := by rw [HOL.out]; exact HOM.out
  have HOM := HOM
  obtain ⟨b, c, j, st, n, at_, first, seq, start, was, held⟩ := s
  obtain ⟨A, c1, rfl, hA1, hA2⟩ := h.first.slice
  obtain ⟨B, d1, rfl, hB1, hB2⟩ := h.seq.slice
  have H := Lib.hid h
  clear h
  have hA1 : first.length ≤ c1 := hA1
  have hB1 : seq.length ≤ d1 := hB1
  unfold maxLen at hA2 hB2
  obtain ⟨n1, hn1⟩ : ∃ n1, n1 = first.length := ⟨_, rfl⟩
  obtain ⟨m1, hm1⟩ : ∃ m1, m1 = seq.length := ⟨_, rfl⟩
  have ag : agL (.slice A first.length c1) (.slice B seq.length d1) ⟨b, c, j, st, n, at_, first, seq, start, was, held⟩ = .agg #[.int .i64 b, .int .i64 c, .int .i64 j, .int .i64 st, .int .i64 n, .int .i64 at_, .slice A n1 c1, .slice B m1 d1, .int .i64 start, .int .i64 was, .string ⟨held.toArray⟩] := by rw [hn1, hm1]; rfl
  try simp only at ag
  rw [ag]
  have AG := Lib.hid ag
  have HN := Lib.hid hn1
  have HM := Lib.hid hm1
  rw [← hn1] at hA1
  rw [← hm1] at hB1
  clear ag hn1 hm1
  have XB := ((Blk.new w 46 #[.int .i64 b, .int .i64 c, .int .i64 j, .int .i64 st, .int .i64 n, .int .i64 at_, .slice A n1 c1, .slice B m1 d1, .int .i64 start, .int .i64 was, .string ⟨held.toArray⟩]).alloc (.cells #[.int .u8 kd, .int .u8 gap, .bool okb, .int .i64 r, .string ⟨t.toArray⟩, .slice D ol d3] 35)).alloc (.cells #[.int .i64 0, .int .i64 0, .int .i64 0, .int .i64 0, .int .i64 0, .int .i64 0, .slice none 0 0, .slice none 0 0, .int .i64 0, .int .i64 0, .string ⟨#[]⟩] 46)
  have XO := (Blk.new (w.alloc (.cells #[.int .i64 b, .int .i64 c, .int .i64 j, .int .i64 st, .int .i64 n, .int .i64 at_, .slice A n1 c1, .slice B m1 d1, .int .i64 start, .int .i64 was, .string ⟨held.toArray⟩] 46)) 35 #[.int .u8 kd, .int .u8 gap, .bool okb, .int .i64 r, .string ⟨t.toArray⟩, .slice D ol d3]).alloc (.cells #[.int .i64 0, .int .i64 0, .int .i64 0, .int .i64 0, .int .i64 0, .int .i64 0, .slice none 0 0, .slice none 0 0, .int .i64 0, .int .i64 0, .string ⟨#[]⟩] 46)
  have XR := Blk.new ((w.alloc (.cells #[.int .i64 b, .int .i64 c, .int .i64 j, .int .i64 st, .int .i64 n, .int .i64 at_, .slice A n1 c1, .slice B m1 d1, .int .i64 start, .int .i64 was, .string ⟨held.toArray⟩] 46)).alloc (.cells #[.int .u8 kd, .int .u8 gap, .bool okb, .int .i64 r, .string ⟨t.toArray⟩, .slice D ol d3] 35)) 46 #[.int .i64 0, .int .i64 0, .int .i64 0, .int .i64 0, .int .i64 0, .int .i64 0, .slice none 0 0, .slice none 0 0, .int .i64 0, .int .i64 0, .string ⟨#[]⟩]
  have F1 := (((Fr.refl No w).alloc (.cells #[.int .i64 b, .int .i64 c, .int .i64 j, .int .i64 st, .int .i64 n, .int .i64 at_, .slice A n1 c1, .slice B m1 d1, .int .i64 start, .int .i64 was, .string ⟨held.toArray⟩] 46)).alloc (.cells #[.int .u8 kd, .int .u8 gap, .bool okb, .int .i64 r, .string ⟨t.toArray⟩, .slice D ol d3] 35)).alloc (.cells #[.int .i64 0, .int .i64 0, .int .i64 0, .int .i64 0, .int .i64 0, .int .i64 0, .slice none 0 0, .slice none 0 0, .int .i64 0, .int .i64 0, .string ⟨#[]⟩] 46)
  simp only [size_alloc] at XO XR
  obtain ⟨bx, hbx⟩ : ∃ bx, w.heap.size = bx := ⟨_, rfl⟩
  obtain ⟨bo, hbo⟩ : ∃ bo, bx + 1 = bo := ⟨_, rfl⟩
  obtain ⟨br, hbr⟩ : ∃ br, bo + 1 = br := ⟨_, rfl⟩
  rw [hbx] at XB XO XR
  rw [hbo] at XO XR
  rw [hbr] at XR
  have XB := Lib.hid XB
  have XO := Lib.hid XO
  have XR := Lib.hid XR
  have F1 := Lib.hid F1
  have HBX := Lib.hid (And.intro hbx (And.intro hbo hbr))
  go_enter Try.func17, Try.ntmps17
  go_upto_region 1 with (fail)
  generalize ((w.alloc (.cells #[.int .i64 b, .int .i64 c, .int .i64 j, .int .i64 st, .int .i64 n, .int .i64 at_, .slice A n1 c1, .slice B m1 d1, .int .i64 start, .int .i64 was, .string ⟨held.toArray⟩] 46)).alloc (.cells #[.int .u8 kd, .int .u8 gap, .bool okb, .int .i64 r, .string ⟨t.toArray⟩, .slice D ol d3] 35)).alloc (.cells #[.int .i64 0, .int .i64 0, .int .i64 0, .int .i64 0, .int .i64 0, .int .i64 0, .slice none 0 0, .slice none 0 0, .int .i64 0, .int .i64 0, .string ⟨#[]⟩] 46) = w1 at XB XO XR F1 ⊢
  have hb12 : bx ≠ bo := by omega
  have hb13 : bx ≠ br := by omega
  have hb23 : bo ≠ br := by omega
  clear hbx hbo hbr
  have HWX := Lib.hid (tick_wf HK.out now)
  have xo := XB.out
  have x0 := xo.cell 0
  have xf0 := xo.frozen 0
  have x1 := xo.cell 1
  have xf1 := xo.frozen 1
  have x2 := xo.cell 2
  have xf2 := xo.frozen 2
  have x3 := xo.cell 3
  have xf3 := xo.frozen 3
  have x4 := xo.cell 4
  have xf4 := xo.frozen 4
  have x5 := xo.cell 5
  have xf5 := xo.frozen 5
  have x6 := xo.cell 6
  have xf6 := xo.frozen 6
  have x7 := xo.cell 7
  have xf7 := xo.frozen 7
  have x8 := xo.cell 8
  have xf8 := xo.frozen 8
  have x9 := xo.cell 9
  have xf9 := xo.frozen 9
  have x10 := xo.cell 10
  have xf10 := xo.frozen 10
  simp only [List.getElem?_toArray, List.getElem?_cons_zero, List.getElem?_cons_succ] at x0 x1 x2 x3 x4 x5 x6 x7 x8 x9 x10
  clear xo
  have oo := XO.out
  have o0 := oo.cell 0
  have of0 := oo.frozen 0
  have o1 := oo.cell 1
  have of1 := oo.frozen 1
  have o2 := oo.cell 2
  have of2 := oo.frozen 2
  have o3 := oo.cell 3
  have of3 := oo.frozen 3
  have o4 := oo.cell 4
  have of4 := oo.frozen 4
  have o5 := oo.cell 5
  have of5 := oo.frozen 5
  simp only [List.getElem?_toArray, List.getElem?_cons_zero, List.getElem?_cons_succ] at o0 o1 o2 o3 o4 o5
  clear oo
  have RC := rtick_any (H.out.no F1.out) HK.out now
  simp only [AG.out] at RC
  have RC := Lib.hid RC
  go_wp2_with fail
  refine RC.out.mono ?_
  have XBc := XB
  have XRc := XR
  have Fc := F1
  rintro e w2 ⟨vF, vL, v2, rfl, hR, ho, hf⟩
  obtain ⟨⟨s2, l2⟩, hs2⟩ : ∃ q, q = tickS ⟨b, c, j, st, n, at_, first, seq, start, was, held⟩ now := ⟨_, rfl⟩
  rw [← hs2] at hR ho ⊢
  simp only at hR ho ⊢
  have HE2 := Lib.hid hs2
  clear hs2
  have HF12 := Lib.hid hf
  obtain ⟨b2, c2, j2, st2, n2, at2, first2, seq2, start2, was2, held2⟩ := s2
  obtain ⟨A2, g2, rfl, -, -⟩ := hR.first.slice
  obtain ⟨B2, d2, rfl, -, -⟩ := hR.seq.slice
  obtain ⟨n3, hn3⟩ : ∃ n3, n3 = first2.length := ⟨_, rfl⟩
  obtain ⟨m3, hm3⟩ : ∃ m3, m3 = seq2.length := ⟨_, rfl⟩
  have ev : agL (.slice A2 first2.length g2) (.slice B2 seq2.length d2) ⟨b2, c2, j2, st2, n2, at2, first2, seq2, start2, was2, held2⟩ = .agg #[.int .i64 b2, .int .i64 c2, .int .i64 j2, .int .i64 st2, .int .i64 n2, .int .i64 at2, .slice A2 n3 g2, .slice B2 m3 d2, .int .i64 start2, .int .i64 was2, .string ⟨held2.toArray⟩] := by rw [hn3, hm3]; rfl
  simp only at ev ⊢
  rw [ev]
  have EV := Lib.hid ev
  have HR := Lib.hid hR
  have HO := Lib.hid ho
  have F2 := Lib.hid (Fc.out.then_no hf)
  have XB2 := Lib.hid (XBc.out.fr hf (fun h => h))
  have XR2 := Lib.hid (XRc.out.fr hf (fun h => h))
  have hbl2 := XR2.out.lt
  have hbm2 := XB2.out.lt
  clear ev hR hf hn3 hm3 ho
  have XO2 := Lib.hid (XO.out.fr HF12.out (fun h => h))
  clear x0 xf0 x1 xf1 x2 xf2 x3 xf3 x4 xf4 x5 xf5 x6 xf6 x7 xf7 x8 xf8 x9 xf9 x10 xf10
  clear o0 of0 o1 of1 o2 of2 o3 of3 o4 of4 o5 of5
  go_upto_region 24 with (fail)
  have XY := Lib.hid (Blk.new w2 46 #[.int .i64 b2, .int .i64 c2, .int .i64 j2, .int .i64 st2, .int .i64 n2, .int .i64 at2, .slice A2 n3 g2, .slice B2 m3 d2, .int .i64 start2, .int .i64 was2, .string ⟨held2.toArray⟩])
  have XO3 := Lib.hid (XO2.out.alloc (.cells #[.int .i64 b2, .int .i64 c2, .int .i64 j2, .int .i64 st2, .int .i64 n2, .int .i64 at2, .slice A2 n3 g2, .slice B2 m3 d2, .int .i64 start2, .int .i64 was2, .string ⟨held2.toArray⟩] 46))
  have XR3 := Lib.hid (XR2.out.alloc (.cells #[.int .i64 b2, .int .i64 c2, .int .i64 j2, .int .i64 st2, .int .i64 n2, .int .i64 at2, .slice A2 n3 g2, .slice B2 m3 d2, .int .i64 start2, .int .i64 was2, .string ⟨held2.toArray⟩] 46))
  have F23 := Lib.hid ((Fr.refl No w2).alloc (.cells #[.int .i64 b2, .int .i64 c2, .int .i64 j2, .int .i64 st2, .int .i64 n2, .int .i64 at2, .slice A2 n3 g2, .slice B2 m3 d2, .int .i64 start2, .int .i64 was2, .string ⟨held2.toArray⟩] 46))
  have FY := Lib.hid (F2.out.then_no F23.out)
  obtain ⟨by_, hby⟩ : ∃ by_, w2.heap.size = by_ := ⟨_, rfl⟩
  have hyr : by_ ≠ br := by omega
  have hry : br ≠ by_ := by omega
  have HBY := Lib.hid (show w.heap.size ≤ by_ by rw [← hby]; exact F2.out.size)
  rw [hby] at XY ⊢
  generalize w2.alloc (.cells #[.int .i64 b2, .int .i64 c2, .int .i64 j2, .int .i64 st2, .int .i64 n2, .int .i64 at2, .slice A2 n3 g2, .slice B2 m3 d2, .int .i64 start2, .int .i64 was2, .string ⟨held2.toArray⟩] 46) = wy at XY XO3 XR3 F23 FY ⊢
  clear hby
  have hbr3 := XR3.out.lt
  have hby3 := XY.out.lt
  have HBR := Lib.hid (show w.heap.size ≤ br ∧ w.heap.size ≤ bo by have := HBX.out; omega)
  have HK2 := Lib.hid (fun (X : World) (hX : Fr (fun z => G z ∨ z = br) wy X) => (show X.cell? ⟨by_, 0, none⟩ = some (.int .i64 b2) ∧ X.cell? ⟨by_, 1, none⟩ = some (.int .i64 c2) ∧ X.cell? ⟨by_, 2, none⟩ = some (.int .i64 j2) ∧ X.cell? ⟨by_, 3, none⟩ = some (.int .i64 st2) ∧ X.cell? ⟨by_, 4, none⟩ = some (.int .i64 n2) ∧ X.cell? ⟨by_, 5, none⟩ = some (.int .i64 at2) ∧ X.cell? ⟨by_, 6, none⟩ = some (.slice A2 n3 g2) ∧ X.cell? ⟨by_, 7, none⟩ = some (.slice B2 m3 d2) ∧ X.cell? ⟨by_, 8, none⟩ = some (.int .i64 start2) ∧ X.cell? ⟨by_, 9, none⟩ = some (.int .i64 was2) ∧ X.cell? ⟨by_, 10, none⟩ = some (.string ⟨held2.toArray⟩) from by
    have a := XY.out.fr hX (fun e => by
      rcases e with e | e
      · have := HLT.out _ e; have := HBY.out; omega
      · omega)
    have o := XO3.out.fr hX (fun e => by
      rcases e with e | e
      · have := HLT.out _ e; have := HBR.out; omega
      · omega)
    have a0 := a.cell 0
    have a1 := a.cell 1
    have a2 := a.cell 2
    have a3 := a.cell 3
    have a4 := a.cell 4
    have a5 := a.cell 5
    have a6 := a.cell 6
    have a7 := a.cell 7
    have a8 := a.cell 8
    have a9 := a.cell 9
    have a10 := a.cell 10
    simp only [List.getElem?_toArray, List.getElem?_cons_zero, List.getElem?_cons_succ] at a0 a1 a2 a3 a4 a5 a6 a7 a8 a9 a10
    exact ⟨a0, a1, a2, a3, a4, a5, a6, a7, a8, a9, a10⟩))
  have HNG := Lib.hid (show ¬ G br from fun e => by have := HLT.out _ e; have := HBR.out; omega)
  have PC := Lib.hid (fun (X : World) (hX : Fr No wy X) => tick_any (HL.out.no (FY.out.then_no hX)) HK.out now)
  rw [← HE2.out] at PC
  have HWU := Lib.hid (show ∀ x ∈ l2, wfU x by have := HWX.out; rw [← HE2.out] at this; exact this)
  obtain ⟨y0, y1, y2, y3, y4, y5, y6, y7, y8, y9, y10⟩ := HK2.out wy (Fr.refl _ _)
  have yf0 := XY.out.frozen 0
  have yf1 := XY.out.frozen 1
  have yf2 := XY.out.frozen 2
  have yf3 := XY.out.frozen 3
  have yf4 := XY.out.frozen 4
  have yf5 := XY.out.frozen 5
  have yf6 := XY.out.frozen 6
  have yf7 := XY.out.frozen 7
  have yf8 := XY.out.frozen 8
  have yf9 := XY.out.frozen 9
  have yf10 := XY.out.frozen 10
  go_region_held3 (fun X => X.cell? ⟨by_, 0, none⟩ = some (.int .i64 b2) ∧ X.cell? ⟨by_, 1, none⟩ = some (.int .i64 c2) ∧ X.cell? ⟨by_, 2, none⟩ = some (.int .i64 j2) ∧ X.cell? ⟨by_, 3, none⟩ = some (.int .i64 st2) ∧ X.cell? ⟨by_, 4, none⟩ = some (.int .i64 n2) ∧ X.cell? ⟨by_, 5, none⟩ = some (.int .i64 at2) ∧ X.cell? ⟨by_, 6, none⟩ = some (.slice A2 n3 g2) ∧ X.cell? ⟨by_, 7, none⟩ = some (.slice B2 m3 d2) ∧ X.cell? ⟨by_, 8, none⟩ = some (.int .i64 start2) ∧ X.cell? ⟨by_, 9, none⟩ = some (.int .i64 was2) ∧ X.cell? ⟨by_, 10, none⟩ = some (.string ⟨held2.toArray⟩)) ((refine HK2.out _ ?_; (repeat' (first | with_reducible assumption | with_reducible exact Fr.refl _ _ | with_reducible refine Fr.drew ?_ | with_reducible refine Fr.drewN ?_ _ | with_reducible refine Fr.setCell ?_ (.inl (.inr rfl)) _)); done)) (first | (go_at_call 11; refine (PC.out _ (by (repeat' (first | with_reducible assumption | with_reducible exact Fr.refl _ _ | with_reducible refine Fr.drew ?_ | with_reducible refine Fr.drewN ?_ _)))).mono ?_; rintro e w5 ⟨v5, G5, rfl, h5, ⟨h6, h7⟩, h8⟩; have HL5 := Lib.hid h5; have HV5 := Lib.hid h6; have HS5 := Lib.hid h8; have g5 : Fr G wy w5 := (Fr.no (by (repeat' (first | with_reducible assumption | with_reducible exact Fr.refl _ _ | with_reducible refine Fr.drew ?_ | with_reducible refine Fr.drewN ?_ _))) _).trans h8.1 (fun b hb _ => hb); have f5 : Fr (fun z => G z ∨ z = br) wy w5 := g5.mono (fun b hb _ => .inl hb); have HRO := Lib.hid (outs_off (w := w1) HO.out (fun k hk => Nat.lt_of_lt_of_le (HLT.out k hk) F1.out.size) (F23.out.then_no (by (repeat' (first | with_reducible assumption | with_reducible exact Fr.refl _ _ | with_reducible refine Fr.drew ?_ | with_reducible refine Fr.drewN ?_ _)))) h8); clear h5 h6 h7 h8) | (go_at_call 26; refine (same_yes HV5.out HRO.out HWU.out (by (repeat' (first | with_reducible assumption | with_reducible exact Fr.refl _ _ | with_reducible refine Fr.drew ?_ | with_reducible refine Fr.drewN ?_ _)))).mono ?_; rintro e w6 ⟨rfl, h6⟩; have g6 : Fr G wy w6 := (show Fr G wy _ from (by (repeat' (first | with_reducible assumption | with_reducible refine Fr.drew ?_ | with_reducible refine Fr.drewN ?_ _)))).then_no h6; have f6 : Fr (fun z => G z ∨ z = br) wy w6 := g6.mono (fun b hb _ => .inl hb); have f56 := Lib.hid ((show Fr No w5 _ from (by (repeat' (first | with_reducible assumption | with_reducible exact Fr.refl _ _ | with_reducible refine Fr.drew ?_ | with_reducible refine Fr.drewN ?_ _)))).then_no h6); clear h6; have XR6 := Lib.hid (XR3.out.fr g6 HNG.out); have ro := XR6.out; have r0 := ro.cell 0; have rf0 := ro.frozen 0; have r1 := ro.cell 1; have rf1 := ro.frozen 1; have r2 := ro.cell 2; have rf2 := ro.frozen 2; have r3 := ro.cell 3; have rf3 := ro.frozen 3; have r4 := ro.cell 4; have rf4 := ro.frozen 4; have r5 := ro.cell 5; have rf5 := ro.frozen 5; have r6 := ro.cell 6; have rf6 := ro.frozen 6; have r7 := ro.cell 7; have rf7 := ro.frozen 7; have r8 := ro.cell 8; have rf8 := ro.frozen 8; have r9 := ro.cell 9; have rf9 := ro.frozen 9; have r10 := ro.cell 10; have rf10 := ro.frozen 10; simp only [List.getElem?_toArray, List.getElem?_cons_zero, List.getElem?_cons_succ] at r0 r1 r2 r3 r4 r5 r6 r7 r8 r9 r10; clear ro))
  go_wp2_with fail
  have b9 := XR6.out
  have b9 := b9.put 0 (.int .i64 b2)
  have b9 := b9.put 1 (.int .i64 c2)
  have b9 := b9.put 2 (.int .i64 j2)
  have b9 := b9.put 3 (.int .i64 st2)
  have b9 := b9.put 4 (.int .i64 n2)
  have b9 := b9.put 5 (.int .i64 at2)
  have b9 := b9.put 6 (.slice A2 n3 g2)
  have b9 := b9.put 7 (.slice B2 m3 d2)
  have b9 := b9.put 8 (.int .i64 start2)
  have b9 := b9.put 9 (.int .i64 was2)
  have b9 := b9.put 10 (.string ⟨held2.toArray⟩)
  simp only [List.setIfInBounds_toArray, List.set_cons_zero, List.set_cons_succ] at b9
  have e0 := b9.cell 0
  have e1 := b9.cell 1
  have e2 := b9.cell 2
  have e3 := b9.cell 3
  have e4 := b9.cell 4
  have e5 := b9.cell 5
  have e6 := b9.cell 6
  have e7 := b9.cell 7
  have e8 := b9.cell 8
  have e9 := b9.cell 9
  have e10 := b9.cell 10
  simp only [List.getElem?_toArray, List.getElem?_cons_zero, List.getElem?_cons_succ] at e0 e1 e2 e3 e4 e5 e6 e7 e8 e9 e10
  clear b9
  refine bodyPost_ret (v := .tuple #[.agg #[.int .i64 b2, .int .i64 c2, .int .i64 j2, .int .i64 st2, .int .i64 n2, .int .i64 at2, .slice A2 n3 g2, .slice B2 m3 d2, .int .i64 start2, .int .i64 was2, .string ⟨held2.toArray⟩], .bool true]) ?_ rfl ?_
  · simp [results, Try.f17, go_sem, e0, e1, e2, e3, e4, e5, e6, e7, e8, e9, e10]
  · rw [← HE2.out]
    refine do_end (br := br) (by rw [EV.out]) HR.out HL5.out HS5.out ?_ ?_ ?_ (fun k hk => ⟨H.out.lt k hk, HBG.out k hk⟩) HLT.out HBR.out.1 hbr3
    · (repeat with_reducible refine Fr.setCell ?_ (.inl (.inr HBR.out.1)) _)
      exact (FY.out.no _).trans g6 (fun b hb _ => .inl hb)
    · (repeat with_reducible refine Fr.setCell ?_ (.inl (.inr HBR.out.1)) _)
      exact (F23.out.no _).trans g6 (fun b hb _ => .inl hb)
    · (repeat with_reducible refine Fr.setCell (F := fun z => z = br) ?_ (.inl rfl) _)
      exact f56.out.no _
end
end Ln
end Go.Proofs.Ytnfkkonmhinlcaa
