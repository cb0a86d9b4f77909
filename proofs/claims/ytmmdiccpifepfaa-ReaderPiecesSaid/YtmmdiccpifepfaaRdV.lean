/- Reader: the reference's told: other replies. Printed by gen_rdt.py. -/
import Derived.Test.YtmmdiccpifepfaaRdU
import Derived.Test.YtmmdiccpifepfaaCalm
import Derived.Test.YtmmdiccpifepfaaStill
import Derived.Deep.CutRange
namespace Go.Proofs.Ytmmdiccpifepfaa
open Go.RowKit
set_option linter.unusedVariables false
set_option linter.unusedSimpArgs false
namespace Rd
open Ans Digit Sls Word

set_option maxRecDepth 100000 in
set_option maxHeartbeats 4000000 in
theorem toldxn (s : Str) (w : World) (A : Nat → Prop) (x : X) (c : Array Value) (h : RB w A x c) (hs : s.length ≤ 900000) (hf : Fit 900000 x) (hb : (readA s).2.2 = 0 ∧ (readA s).2.1 = s.length) (hnum : (readA s).1.1 ≠ 310 ∧ (readA s).1.1 ≠ 311 ∧ (readA s).1.1 ≠ 312 ∧ (readA s).1.1 ≠ 313 ∧ (readA s).1.1 ≠ 460) (ho : x.V = [])  :
    Calls Try.prog 20 #[.agg c, .string ⟨s.toArray⟩] w (ToldP w A (replyR x s)) := by
  rw [reply_ok hb]
  have hR := fun W => rread27_any s W hs
  obtain ⟨⟨⟨num, L⟩, n, e⟩, hr⟩ : ∃ r, r = readA s := ⟨_, rfl⟩
  rw [← hr] at hR hb hnum ⊢
  simp only at hb hnum
  obtain ⟨rfl, rfl⟩ := hb
  have hll : ∀ l ∈ L, l.length ≤ 900000 := fun l hl => Nat.le_trans (by have := read_le s l (by rw [← hr]; exact hl); exact this) hs
  have HLL := Lib.hid hll
  obtain ⟨B, vR, vV, rv, rfl, hp, hA, hlt⟩ := h
  have hrl := hp.lines.1
  obtain ⟨A5, k5, hu⟩ := own_form hp.rown
  subst hu
  obtain ⟨A6, k6, hu⟩ := own_form hp.vown
  subst hu
  have hfl := hf.1
  have hfv := hf.2.1
  obtain ⟨n5, hn5⟩ : ∃ n5, n5 = rv.length := ⟨_, rfl⟩
  obtain ⟨n6, hn6⟩ : ∃ n6, n6 = x.V.length := ⟨_, rfl⟩
  have hn5l : n5 ≤ 1000000 := by omega
  have hn6l : n6 ≤ 1000000 := by omega
  rw [← hn5, ← hn6] at hp hA ⊢
  have HN := Lib.hid hn5
  have HN6 := Lib.hid hn6
  have HP := Lib.hid hp
  have HA := Lib.hid hA
  have HL := Lib.hid hlt
  have HR := Lib.hid hR
  have HF := Lib.hid hf
  clear hp hA hlt hrl hfl hfv hn5 hn6 hR hf hll hr
  obtain ⟨ro, hro⟩ : ∃ ro, ro = x.role := ⟨_, rfl⟩
  obtain ⟨bd, hbd⟩ : ∃ bd, bd = x.bad := ⟨_, rfl⟩
  have HCX := Lib.hid (And.intro hro hbd)
  rw [show cellsX (.slice A5 n5 k5) (.slice A6 n6 k6) x = #[.slice A5 n5 k5, .slice A6 n6 k6, .int .i64 ro, .bool bd] from by rw [hro, hbd]; rfl]
  clear hro hbd
  have XB := (Blk.new w 31 #[.slice A5 n5 k5, .slice A6 n6 k6, .int .i64 ro, .bool bd]).alloc (.cells #[.slice none 0 0, .slice none 0 0, .int .i64 0, .bool false] 31)
  have XR := Blk.new (w.alloc (.cells #[.slice A5 n5 k5, .slice A6 n6 k6, .int .i64 ro, .bool bd] 31)) 31 #[.slice none 0 0, .slice none 0 0, .int .i64 0, .bool false]
  have FA := Lib.hid (((Fr.refl No w).alloc (.cells #[.slice A5 n5 k5, .slice A6 n6 k6, .int .i64 ro, .bool bd] 31)).alloc (.cells #[.slice none 0 0, .slice none 0 0, .int .i64 0, .bool false] 31))
  rw [size_alloc] at XR
  obtain ⟨bx, hbx⟩ : ∃ bx, w.heap.size = bx := ⟨_, rfl⟩
  obtain ⟨br, hbr⟩ : ∃ br, bx + 1 = br := ⟨_, rfl⟩
  rw [hbx] at XB XR
  rw [hbr] at XR
  go_enter Try.func20, Try.ntmps20
  go_wp2_with fail
  try rw [hbx]
  try rw [hbr]
  generalize (w.alloc (.cells #[.slice A5 n5 k5, .slice A6 n6 k6, .int .i64 ro, .bool bd] 31)).alloc (.cells #[.slice none 0 0, .slice none 0 0, .int .i64 0, .bool false] 31) = wa at XB XR FA ⊢
  have XB := Lib.hid XB
  have XR := Lib.hid XR
  have HBX := Lib.hid hbx
  have HBR := Lib.hid hbr
  have hxr : bx ≠ br := by omega
  have hrx : br ≠ bx := by omega
  clear hbx hbr
  refine (HR.out wa).mono ?_
  rintro ee w1 ⟨v, rfl, hv, hf⟩
  obtain ⟨Ar, cr, rfl, -, -⟩ := hv.slice
  have HV := Lib.hid hv
  have HF1 := Lib.hid hf
  clear hv hf
  have hb1 : ((0 : Int) != 0) = false := rfl
  have hb2 : ((s.length : Int) != (s.length : Int)) = false := by simp
  have hf2 : Fr No wa (w1.alloc (.cells #[.int .i64 num, .slice Ar L.length cr] 69)) := HF1.out.alloc _
  have XB2 := XB.out.fr hf2 (fun h => h)
  have x0 := XB2.cell 0
  simp only [List.getElem?_toArray, List.getElem?_cons_zero, List.getElem?_cons_succ] at x0
  have hro : (w1.alloc (.cells #[.int .i64 num, .slice Ar L.length cr] 69)).ownsRow 0 69 2 (.slice A5 n5 k5) n5 (rv.flatMap encR) := by have hq := (HP.out.no (FA.out.then_no hf2)).rown; rw [← HN.out] at hq; exact hq
  have HRO := Lib.hid hro
  have HX2 := Lib.hid XB2
  clear XB2 hro hf2
  go_upto_region 6 with (at_builtin; go_loud (refine wp_push rfl (.tmp 28) (.tmp 30) 28 rfl 69 (.agg #[.int .i64 0, .slice none 0 0]) 2 32 Try.underlying28 infoR rfl (by decide) (.slice A5 n5 k5) n5 _ rfl HRO.out #[.int .i64 num, .slice Ar L.length cr] (by simp [Act.eval]) rfl (by intro u hu; simp at hu; rcases hu with rfl | rfl <;> rfl) (by omega) (by unfold maxLen; omega) ?_; intro g4 cap4 wq p1 p2 p3; have x4 := HX2.out.fr p2 (fun h => (old_not HP.out (by have := HBX.out; omega)).2.2.1 h); have q0 := x4.cell 0; have q1 := x4.frozen 0; simp only [List.getElem?_toArray, List.getElem?_cons_zero, List.getElem?_cons_succ] at q0; have G := Lib.hid (got_told HP.out HA.out HN.out FA.out HBX.out HBR.out XB.out XR.out HV.out HF1.out p1 p2 p3); clear p1 p2 p3 x4))
  generalize wq.setCell ⟨bx, 0, none⟩ (.slice (some ⟨g4, 0, none⟩) (n5 + 1) cap4) = W at G ⊢
  obtain ⟨y5, hy5⟩ : ∃ y5, y5 = w1.heap.size := ⟨_, rfl⟩
  rw [← hy5] at G ⊢
  have HY5 := Lib.hid hy5
  clear x0 q0 q1 hy5
  have x0 := G.out.xb.cell 0
  have x1 := G.out.xb.cell 1
  have x2 := G.out.xb.cell 2
  have x3 := G.out.xb.cell 3
  have xf0 := G.out.xb.frozen 0
  have xf1 := G.out.xb.frozen 1
  have xf2 := G.out.xb.frozen 2
  have xf3 := G.out.xb.frozen 3
  have r0 := G.out.xr.cell 0
  have r1 := G.out.xr.cell 1
  have r2 := G.out.xr.cell 2
  have r3 := G.out.xr.cell 3
  have rf0 := G.out.xr.frozen 0
  have rf1 := G.out.xr.frozen 1
  have rf2 := G.out.xr.frozen 2
  have rf3 := G.out.xr.frozen 3
  simp only [List.getElem?_toArray, List.getElem?_cons_zero, List.getElem?_cons_succ] at x0 x1 x2 x3 r0 r1 r2 r3
  have y0 := G.out.c5.cell 0
  have y1 := G.out.c5.cell 1
  simp only [List.getElem?_toArray, List.getElem?_cons_zero, List.getElem?_cons_succ] at y0 y1
  have e6 : n6 = 0 := by rw [HN6.out, ho]; rfl
  subst e6
  have HU := Lib.hid ho
  clear ho
  obtain ⟨m1, m2, m3, m4, m6⟩ := hnum
  have d1 : ((num : Int) == 310) = false := by simpa using m1
  have d2 : ((num : Int) == 311) = false := by simpa using m2
  have d3 : ((num : Int) == 312) = false := by simpa using m3
  have d4 : ((num : Int) == 313) = false := by simpa using m4
  have d6 : ((num : Int) == 460) = false := by simpa using m6
  have HE := Lib.hid (show actR { x with R := x.R ++ [(num, L)] } (num, L) = { x with R := x.R ++ [(num, L)] } from by unfold actR; simp only [m1, m2, m3, m4, m6, if_false])
  clear m1 m2 m3 m4 m6
  go_wp2_with fail
  have b9 := G.out.xr
  have b9 := b9.put 0 (.slice (some ⟨g4, 0, none⟩) (n5 + 1) cap4)
  have b9 := b9.put 1 (.slice A6 0 k6)
  have b9 := b9.put 2 (.int .i64 ro)
  have b9 := b9.put 3 (.bool bd)
  simp only [List.setIfInBounds_toArray, List.set_cons_zero, List.set_cons_succ] at b9
  have e0 := b9.cell 0
  have e1 := b9.cell 1
  have e2 := b9.cell 2
  have e3 := b9.cell 3
  simp only [List.getElem?_toArray, List.getElem?_cons_zero, List.getElem?_cons_succ] at e0 e1 e2 e3
  clear b9
  refine bodyPost_ret (v := .agg #[.slice (some ⟨g4, 0, none⟩) (n5 + 1) cap4, .slice A6 0 k6, .int .i64 ro, .bool bd]) ?_ rfl ?_
  · simp [results, Try.f20, go_sem, e0, e1, e2, e3]
  · rw [show actR { x with R := x.R ++ [((num : Int), L)] } (num, L) = ({ x with R := x.R ++ [((num : Int), L)] } : X) from HE.out]; (try rw [HCX.out.1]); (try rw [HCX.out.2])
    have q := G.out.same (Fr.refl _ _)
    exact told_end (bx := bx) (br := br) (y := ({ x with R := x.R ++ [((num : Int), L)] } : X)) q.1 (Rows.like q.2.1 rfl rfl) q.2.2.1 HL.out (by repeat (first | with_reducible exact Fr.refl _ _ | with_reducible refine Fr.setCell ?_ (.inl (by first | exact .inl rfl | exact .inr rfl)) _)) q.2.2.2

set_option maxRecDepth 100000 in
set_option maxHeartbeats 4000000 in
theorem toldxh (s : Str) (w : World) (A : Nat → Prop) (x : X) (c : Array Value) (h : RB w A x c) (hs : s.length ≤ 900000) (hf : Fit 900000 x) (hb : (readA s).2.2 = 0 ∧ (readA s).2.1 = s.length) (hnum : (readA s).1.1 ≠ 310 ∧ (readA s).1.1 ≠ 311 ∧ (readA s).1.1 ≠ 312 ∧ (readA s).1.1 ≠ 313 ∧ (readA s).1.1 ≠ 460) (U : List Vw) (n9 t9 : Str) (ho : x.V = U ++ [(n9, t9, false)])  :
    Calls Try.prog 20 #[.agg c, .string ⟨s.toArray⟩] w (ToldP w A (replyR x s)) := by
  rw [reply_ok hb]
  have hR := fun W => rread27_any s W hs
  obtain ⟨⟨⟨num, L⟩, n, e⟩, hr⟩ : ∃ r, r = readA s := ⟨_, rfl⟩
  rw [← hr] at hR hb hnum ⊢
  simp only at hb hnum
  obtain ⟨rfl, rfl⟩ := hb
  have hll : ∀ l ∈ L, l.length ≤ 900000 := fun l hl => Nat.le_trans (by have := read_le s l (by rw [← hr]; exact hl); exact this) hs
  have HLL := Lib.hid hll
  obtain ⟨B, vR, vV, rv, rfl, hp, hA, hlt⟩ := h
  have hrl := hp.lines.1
  obtain ⟨A5, k5, hu⟩ := own_form hp.rown
  subst hu
  obtain ⟨A6, k6, hu⟩ := own_form hp.vown
  subst hu
  have hfl := hf.1
  have hfv := hf.2.1
  obtain ⟨n5, hn5⟩ : ∃ n5, n5 = rv.length := ⟨_, rfl⟩
  obtain ⟨n6, hn6⟩ : ∃ n6, n6 = x.V.length := ⟨_, rfl⟩
  have hn5l : n5 ≤ 1000000 := by omega
  have hn6l : n6 ≤ 1000000 := by omega
  rw [← hn5, ← hn6] at hp hA ⊢
  have HN := Lib.hid hn5
  have HN6 := Lib.hid hn6
  have HP := Lib.hid hp
  have HA := Lib.hid hA
  have HL := Lib.hid hlt
  have HR := Lib.hid hR
  have HF := Lib.hid hf
  clear hp hA hlt hrl hfl hfv hn5 hn6 hR hf hll hr
  obtain ⟨ro, hro⟩ : ∃ ro, ro = x.role := ⟨_, rfl⟩
  obtain ⟨bd, hbd⟩ : ∃ bd, bd = x.bad := ⟨_, rfl⟩
  have HCX := Lib.hid (And.intro hro hbd)
  rw [show cellsX (.slice A5 n5 k5) (.slice A6 n6 k6) x = #[.slice A5 n5 k5, .slice A6 n6 k6, .int .i64 ro, .bool bd] from by rw [hro, hbd]; rfl]
  clear hro hbd
  have XB := (Blk.new w 31 #[.slice A5 n5 k5, .slice A6 n6 k6, .int .i64 ro, .bool bd]).alloc (.cells #[.slice none 0 0, .slice none 0 0, .int .i64 0, .bool false] 31)
  have XR := Blk.new (w.alloc (.cells #[.slice A5 n5 k5, .slice A6 n6 k6, .int .i64 ro, .bool bd] 31)) 31 #[.slice none 0 0, .slice none 0 0, .int .i64 0, .bool false]
  have FA := Lib.hid (((Fr.refl No w).alloc (.cells #[.slice A5 n5 k5, .slice A6 n6 k6, .int .i64 ro, .bool bd] 31)).alloc (.cells #[.slice none 0 0, .slice none 0 0, .int .i64 0, .bool false] 31))
  rw [size_alloc] at XR
  obtain ⟨bx, hbx⟩ : ∃ bx, w.heap.size = bx := ⟨_, rfl⟩
  obtain ⟨br, hbr⟩ : ∃ br, bx + 1 = br := ⟨_, rfl⟩
  rw [hbx] at XB XR
  rw [hbr] at XR
  go_enter Try.func20, Try.ntmps20
  go_wp2_with fail
  try rw [hbx]
  try rw [hbr]
  generalize (w.alloc (.cells #[.slice A5 n5 k5, .slice A6 n6 k6, .int .i64 ro, .bool bd] 31)).alloc (.cells #[.slice none 0 0, .slice none 0 0, .int .i64 0, .bool false] 31) = wa at XB XR FA ⊢
  have XB := Lib.hid XB
  have XR := Lib.hid XR
  have HBX := Lib.hid hbx
  have HBR := Lib.hid hbr
  have hxr : bx ≠ br := by omega
  have hrx : br ≠ bx := by omega
  clear hbx hbr
  refine (HR.out wa).mono ?_
  rintro ee w1 ⟨v, rfl, hv, hf⟩
  obtain ⟨Ar, cr, rfl, -, -⟩ := hv.slice
  have HV := Lib.hid hv
  have HF1 := Lib.hid hf
  clear hv hf
  have hb1 : ((0 : Int) != 0) = false := rfl
  have hb2 : ((s.length : Int) != (s.length : Int)) = false := by simp
  have hf2 : Fr No wa (w1.alloc (.cells #[.int .i64 num, .slice Ar L.length cr] 69)) := HF1.out.alloc _
  have XB2 := XB.out.fr hf2 (fun h => h)
  have x0 := XB2.cell 0
  simp only [List.getElem?_toArray, List.getElem?_cons_zero, List.getElem?_cons_succ] at x0
  have hro : (w1.alloc (.cells #[.int .i64 num, .slice Ar L.length cr] 69)).ownsRow 0 69 2 (.slice A5 n5 k5) n5 (rv.flatMap encR) := by have hq := (HP.out.no (FA.out.then_no hf2)).rown; rw [← HN.out] at hq; exact hq
  have HRO := Lib.hid hro
  have HX2 := Lib.hid XB2
  clear XB2 hro hf2
  go_upto_region 6 with (at_builtin; go_loud (refine wp_push rfl (.tmp 28) (.tmp 30) 28 rfl 69 (.agg #[.int .i64 0, .slice none 0 0]) 2 32 Try.underlying28 infoR rfl (by decide) (.slice A5 n5 k5) n5 _ rfl HRO.out #[.int .i64 num, .slice Ar L.length cr] (by simp [Act.eval]) rfl (by intro u hu; simp at hu; rcases hu with rfl | rfl <;> rfl) (by omega) (by unfold maxLen; omega) ?_; intro g4 cap4 wq p1 p2 p3; have x4 := HX2.out.fr p2 (fun h => (old_not HP.out (by have := HBX.out; omega)).2.2.1 h); have q0 := x4.cell 0; have q1 := x4.frozen 0; simp only [List.getElem?_toArray, List.getElem?_cons_zero, List.getElem?_cons_succ] at q0; have G := Lib.hid (got_told HP.out HA.out HN.out FA.out HBX.out HBR.out XB.out XR.out HV.out HF1.out p1 p2 p3); clear p1 p2 p3 x4))
  generalize wq.setCell ⟨bx, 0, none⟩ (.slice (some ⟨g4, 0, none⟩) (n5 + 1) cap4) = W at G ⊢
  obtain ⟨y5, hy5⟩ : ∃ y5, y5 = w1.heap.size := ⟨_, rfl⟩
  rw [← hy5] at G ⊢
  have HY5 := Lib.hid hy5
  clear x0 q0 q1 hy5
  have x0 := G.out.xb.cell 0
  have x1 := G.out.xb.cell 1
  have x2 := G.out.xb.cell 2
  have x3 := G.out.xb.cell 3
  have xf0 := G.out.xb.frozen 0
  have xf1 := G.out.xb.frozen 1
  have xf2 := G.out.xb.frozen 2
  have xf3 := G.out.xb.frozen 3
  have r0 := G.out.xr.cell 0
  have r1 := G.out.xr.cell 1
  have r2 := G.out.xr.cell 2
  have r3 := G.out.xr.cell 3
  have rf0 := G.out.xr.frozen 0
  have rf1 := G.out.xr.frozen 1
  have rf2 := G.out.xr.frozen 2
  have rf3 := G.out.xr.frozen 3
  simp only [List.getElem?_toArray, List.getElem?_cons_zero, List.getElem?_cons_succ] at x0 x1 x2 x3 r0 r1 r2 r3
  have y0 := G.out.c5.cell 0
  have y1 := G.out.c5.cell 1
  simp only [List.getElem?_toArray, List.getElem?_cons_zero, List.getElem?_cons_succ] at y0 y1
  have hv6 := G.out.rows.vown
  have hl6 := HN6.out
  rw [ho] at hl6
  simp only [List.length_append, List.length_singleton] at hl6
  obtain ⟨m, hm⟩ : ∃ m, m = U.length := ⟨_, rfl⟩
  rw [← hm] at hl6
  subst hl6
  obtain ⟨gV, c9, hgV⟩ := own_pos hv6 (show 0 < x.V.length by rw [ho]; simp)
  injection hgV with hgV h92 h93
  subst hgV
  subst h93
  clear h92
  obtain ⟨v0, v1, v2⟩ := G.out.rows.at_ ho hm
  have hb0 : decide (((m + 1 : Nat) : Int) - 1 ≥ 0) = true := decide_eq_true (by omega)
  have hmc : m + 1 ≤ k6 := by
    rcases HP.out.vown.2 with ⟨h1, h2⟩ | ⟨g, cap, cur, h1, h2, h3, h4, h5, _⟩
    · cases h1
    · injection h1 with _ _ h1; rw [h1]; rw [← HN6.out] at h4; exact h4
  have hmc2 : m ≤ k6 := by omega
  have hlt9 : (m : Int) < (m : Int) + 1 := by omega
  have hxg : bx ≠ gV := fun e => (G.out.hb bx (.inl rfl)).2.2.2 (by rw [e]; rfl)
  have hgx : gV ≠ bx := fun e => hxg e.symm
  have HM := Lib.hid hm
  have HU := Lib.hid ho
  clear hv6 hm ho
  obtain ⟨m1, m2, m3, m4, m6⟩ := hnum
  have d1 : ((num : Int) == 310) = false := by simpa using m1
  have d2 : ((num : Int) == 311) = false := by simpa using m2
  have d3 : ((num : Int) == 312) = false := by simpa using m3
  have d4 : ((num : Int) == 313) = false := by simpa using m4
  have d6 : ((num : Int) == 460) = false := by simpa using m6
  have HE := Lib.hid (show actR { x with R := x.R ++ [(num, L)] } (num, L) = { x with R := x.R ++ [(num, L)] } from by unfold actR; simp only [m1, m2, m3, m4, m6, if_false])
  clear m1 m2 m3 m4 m6
  go_wp2_with fail
  have b9 := G.out.xr
  have b9 := b9.put 0 (.slice (some ⟨g4, 0, none⟩) (n5 + 1) cap4)
  have b9 := b9.put 1 (.slice (some ⟨gV, 0, none⟩) (m + 1) k6)
  have b9 := b9.put 2 (.int .i64 ro)
  have b9 := b9.put 3 (.bool bd)
  simp only [List.setIfInBounds_toArray, List.set_cons_zero, List.set_cons_succ] at b9
  have e0 := b9.cell 0
  have e1 := b9.cell 1
  have e2 := b9.cell 2
  have e3 := b9.cell 3
  simp only [List.getElem?_toArray, List.getElem?_cons_zero, List.getElem?_cons_succ] at e0 e1 e2 e3
  clear b9
  refine bodyPost_ret (v := .agg #[.slice (some ⟨g4, 0, none⟩) (n5 + 1) cap4, .slice (some ⟨gV, 0, none⟩) (m + 1) k6, .int .i64 ro, .bool bd]) ?_ rfl ?_
  · simp [results, Try.f20, go_sem, e0, e1, e2, e3]
  · rw [show actR { x with R := x.R ++ [((num : Int), L)] } (num, L) = ({ x with R := x.R ++ [((num : Int), L)] } : X) from HE.out]; (try rw [HCX.out.1]); (try rw [HCX.out.2])
    have q := G.out.same (Fr.refl _ _)
    exact told_end (bx := bx) (br := br) (y := ({ x with R := x.R ++ [((num : Int), L)] } : X)) q.1 (Rows.like q.2.1 rfl rfl) q.2.2.1 HL.out (by repeat (first | with_reducible exact Fr.refl _ _ | with_reducible refine Fr.setCell ?_ (.inl (by first | exact .inl rfl | exact .inr rfl)) _)) q.2.2.2

set_option maxRecDepth 100000 in
set_option maxHeartbeats 4000000 in
theorem toldxo (s : Str) (w : World) (A : Nat → Prop) (x : X) (c : Array Value) (h : RB w A x c) (hs : s.length ≤ 900000) (hf : Fit 900000 x) (hb : (readA s).2.2 = 0 ∧ (readA s).2.1 = s.length) (hnum : (readA s).1.1 ≠ 310 ∧ (readA s).1.1 ≠ 311 ∧ (readA s).1.1 ≠ 312 ∧ (readA s).1.1 ≠ 313 ∧ (readA s).1.1 ≠ 460) (U : List Vw) (n9 t9 : Str) (ho : x.V = U ++ [(n9, t9, true)])  :
    Calls Try.prog 20 #[.agg c, .string ⟨s.toArray⟩] w (ToldP w A (replyR x s)) := by
  rw [reply_ok hb]
  have hR := fun W => rread27_any s W hs
  obtain ⟨⟨⟨num, L⟩, n, e⟩, hr⟩ : ∃ r, r = readA s := ⟨_, rfl⟩
  rw [← hr] at hR hb hnum ⊢
  simp only at hb hnum
  obtain ⟨rfl, rfl⟩ := hb
  have hll : ∀ l ∈ L, l.length ≤ 900000 := fun l hl => Nat.le_trans (by have := read_le s l (by rw [← hr]; exact hl); exact this) hs
  have HLL := Lib.hid hll
  obtain ⟨B, vR, vV, rv, rfl, hp, hA, hlt⟩ := h
  have hrl := hp.lines.1
  obtain ⟨A5, k5, hu⟩ := own_form hp.rown
  subst hu
  obtain ⟨A6, k6, hu⟩ := own_form hp.vown
  subst hu
  have hfl := hf.1
  have hfv := hf.2.1
  obtain ⟨n5, hn5⟩ : ∃ n5, n5 = rv.length := ⟨_, rfl⟩
  obtain ⟨n6, hn6⟩ : ∃ n6, n6 = x.V.length := ⟨_, rfl⟩
  have hn5l : n5 ≤ 1000000 := by omega
  have hn6l : n6 ≤ 1000000 := by omega
  rw [← hn5, ← hn6] at hp hA ⊢
  have HN := Lib.hid hn5
  have HN6 := Lib.hid hn6
  have HP := Lib.hid hp
  have HA := Lib.hid hA
  have HL := Lib.hid hlt
  have HR := Lib.hid hR
  have HF := Lib.hid hf
  clear hp hA hlt hrl hfl hfv hn5 hn6 hR hf hll hr
  obtain ⟨ro, hro⟩ : ∃ ro, ro = x.role := ⟨_, rfl⟩
  obtain ⟨bd, hbd⟩ : ∃ bd, bd = x.bad := ⟨_, rfl⟩
  have HCX := Lib.hid (And.intro hro hbd)
  rw [show cellsX (.slice A5 n5 k5) (.slice A6 n6 k6) x = #[.slice A5 n5 k5, .slice A6 n6 k6, .int .i64 ro, .bool bd] from by rw [hro, hbd]; rfl]
  clear hro hbd
  have XB := (Blk.new w 31 #[.slice A5 n5 k5, .slice A6 n6 k6, .int .i64 ro, .bool bd]).alloc (.cells #[.slice none 0 0, .slice none 0 0, .int .i64 0, .bool false] 31)
  have XR := Blk.new (w.alloc (.cells #[.slice A5 n5 k5, .slice A6 n6 k6, .int .i64 ro, .bool bd] 31)) 31 #[.slice none 0 0, .slice none 0 0, .int .i64 0, .bool false]
  have FA := Lib.hid (((Fr.refl No w).alloc (.cells #[.slice A5 n5 k5, .slice A6 n6 k6, .int .i64 ro, .bool bd] 31)).alloc (.cells #[.slice none 0 0, .slice none 0 0, .int .i64 0, .bool false] 31))
  rw [size_alloc] at XR
  obtain ⟨bx, hbx⟩ : ∃ bx, w.heap.size = bx := ⟨_, rfl⟩
  obtain ⟨br, hbr⟩ : ∃ br, bx + 1 = br := ⟨_, rfl⟩
  rw [hbx] at XB XR
  rw [hbr] at XR
  go_enter Try.func20, Try.ntmps20
  go_wp2_with fail
  try rw [hbx]
  try rw [hbr]
  generalize (w.alloc (.cells #[.slice A5 n5 k5, .slice A6 n6 k6, .int .i64 ro, .bool bd] 31)).alloc (.cells #[.slice none 0 0, .slice none 0 0, .int .i64 0, .bool false] 31) = wa at XB XR FA ⊢
  have XB := Lib.hid XB
  have XR := Lib.hid XR
  have HBX := Lib.hid hbx
  have HBR := Lib.hid hbr
  have hxr : bx ≠ br := by omega
  have hrx : br ≠ bx := by omega
  clear hbx hbr
  refine (HR.out wa).mono ?_
  rintro ee w1 ⟨v, rfl, hv, hf⟩
  obtain ⟨Ar, cr, rfl, -, -⟩ := hv.slice
  have HV := Lib.hid hv
  have HF1 := Lib.hid hf
  clear hv hf
  have hb1 : ((0 : Int) != 0) = false := rfl
  have hb2 : ((s.length : Int) != (s.length : Int)) = false := by simp
  have hf2 : Fr No wa (w1.alloc (.cells #[.int .i64 num, .slice Ar L.length cr] 69)) := HF1.out.alloc _
  have XB2 := XB.out.fr hf2 (fun h => h)
  have x0 := XB2.cell 0
  simp only [List.getElem?_toArray, List.getElem?_cons_zero, List.getElem?_cons_succ] at x0
  have hro : (w1.alloc (.cells #[.int .i64 num, .slice Ar L.length cr] 69)).ownsRow 0 69 2 (.slice A5 n5 k5) n5 (rv.flatMap encR) := by have hq := (HP.out.no (FA.out.then_no hf2)).rown; rw [← HN.out] at hq; exact hq
  have HRO := Lib.hid hro
  have HX2 := Lib.hid XB2
  clear XB2 hro hf2
  go_upto_region 6 with (at_builtin; go_loud (refine wp_push rfl (.tmp 28) (.tmp 30) 28 rfl 69 (.agg #[.int .i64 0, .slice none 0 0]) 2 32 Try.underlying28 infoR rfl (by decide) (.slice A5 n5 k5) n5 _ rfl HRO.out #[.int .i64 num, .slice Ar L.length cr] (by simp [Act.eval]) rfl (by intro u hu; simp at hu; rcases hu with rfl | rfl <;> rfl) (by omega) (by unfold maxLen; omega) ?_; intro g4 cap4 wq p1 p2 p3; have x4 := HX2.out.fr p2 (fun h => (old_not HP.out (by have := HBX.out; omega)).2.2.1 h); have q0 := x4.cell 0; have q1 := x4.frozen 0; simp only [List.getElem?_toArray, List.getElem?_cons_zero, List.getElem?_cons_succ] at q0; have G := Lib.hid (got_told HP.out HA.out HN.out FA.out HBX.out HBR.out XB.out XR.out HV.out HF1.out p1 p2 p3); clear p1 p2 p3 x4))
  generalize wq.setCell ⟨bx, 0, none⟩ (.slice (some ⟨g4, 0, none⟩) (n5 + 1) cap4) = W at G ⊢
  obtain ⟨y5, hy5⟩ : ∃ y5, y5 = w1.heap.size := ⟨_, rfl⟩
  rw [← hy5] at G ⊢
  have HY5 := Lib.hid hy5
  clear x0 q0 q1 hy5
  have x0 := G.out.xb.cell 0
  have x1 := G.out.xb.cell 1
  have x2 := G.out.xb.cell 2
  have x3 := G.out.xb.cell 3
  have xf0 := G.out.xb.frozen 0
  have xf1 := G.out.xb.frozen 1
  have xf2 := G.out.xb.frozen 2
  have xf3 := G.out.xb.frozen 3
  have r0 := G.out.xr.cell 0
  have r1 := G.out.xr.cell 1
  have r2 := G.out.xr.cell 2
  have r3 := G.out.xr.cell 3
  have rf0 := G.out.xr.frozen 0
  have rf1 := G.out.xr.frozen 1
  have rf2 := G.out.xr.frozen 2
  have rf3 := G.out.xr.frozen 3
  simp only [List.getElem?_toArray, List.getElem?_cons_zero, List.getElem?_cons_succ] at x0 x1 x2 x3 r0 r1 r2 r3
  have y0 := G.out.c5.cell 0
  have y1 := G.out.c5.cell 1
  simp only [List.getElem?_toArray, List.getElem?_cons_zero, List.getElem?_cons_succ] at y0 y1
  have hv6 := G.out.rows.vown
  have hl6 := HN6.out
  rw [ho] at hl6
  simp only [List.length_append, List.length_singleton] at hl6
  obtain ⟨m, hm⟩ : ∃ m, m = U.length := ⟨_, rfl⟩
  rw [← hm] at hl6
  subst hl6
  obtain ⟨gV, c9, hgV⟩ := own_pos hv6 (show 0 < x.V.length by rw [ho]; simp)
  injection hgV with hgV h92 h93
  subst hgV
  subst h93
  clear h92
  obtain ⟨v0, v1, v2⟩ := G.out.rows.at_ ho hm
  have hb0 : decide (((m + 1 : Nat) : Int) - 1 ≥ 0) = true := decide_eq_true (by omega)
  have hmc : m + 1 ≤ k6 := by
    rcases HP.out.vown.2 with ⟨h1, h2⟩ | ⟨g, cap, cur, h1, h2, h3, h4, h5, _⟩
    · cases h1
    · injection h1 with _ _ h1; rw [h1]; rw [← HN6.out] at h4; exact h4
  have hmc2 : m ≤ k6 := by omega
  have hlt9 : (m : Int) < (m : Int) + 1 := by omega
  have hxg : bx ≠ gV := fun e => (G.out.hb bx (.inl rfl)).2.2.2 (by rw [e]; rfl)
  have hgx : gV ≠ bx := fun e => hxg e.symm
  have HM := Lib.hid hm
  have HU := Lib.hid ho
  clear hv6 hm ho
  obtain ⟨m1, m2, m3, m4, m6⟩ := hnum
  have d1 : ((num : Int) == 310) = false := by simpa using m1
  have d2 : ((num : Int) == 311) = false := by simpa using m2
  have d3 : ((num : Int) == 312) = false := by simpa using m3
  have d4 : ((num : Int) == 313) = false := by simpa using m4
  have d6 : ((num : Int) == 460) = false := by simpa using m6
  have HE := Lib.hid (show actR { x with R := x.R ++ [(num, L)] } (num, L) = { x with R := x.R ++ [(num, L)] } from by unfold actR; simp only [m1, m2, m3, m4, m6, if_false])
  clear m1 m2 m3 m4 m6
  go_wp2_with fail
  have b9 := G.out.xr
  have b9 := b9.put 0 (.slice (some ⟨g4, 0, none⟩) (n5 + 1) cap4)
  have b9 := b9.put 1 (.slice (some ⟨gV, 0, none⟩) (m + 1) k6)
  have b9 := b9.put 2 (.int .i64 ro)
  have b9 := b9.put 3 (.bool bd)
  simp only [List.setIfInBounds_toArray, List.set_cons_zero, List.set_cons_succ] at b9
  have e0 := b9.cell 0
  have e1 := b9.cell 1
  have e2 := b9.cell 2
  have e3 := b9.cell 3
  simp only [List.getElem?_toArray, List.getElem?_cons_zero, List.getElem?_cons_succ] at e0 e1 e2 e3
  clear b9
  refine bodyPost_ret (v := .agg #[.slice (some ⟨g4, 0, none⟩) (n5 + 1) cap4, .slice (some ⟨gV, 0, none⟩) (m + 1) k6, .int .i64 ro, .bool bd]) ?_ rfl ?_
  · simp [results, Try.f20, go_sem, e0, e1, e2, e3]
  · rw [show actR { x with R := x.R ++ [((num : Int), L)] } (num, L) = ({ x with R := x.R ++ [((num : Int), L)] } : X) from HE.out]; (try rw [HCX.out.1]); (try rw [HCX.out.2])
    have q := G.out.same (Fr.refl _ _)
    exact told_end (bx := bx) (br := br) (y := ({ x with R := x.R ++ [((num : Int), L)] } : X)) q.1 (Rows.like q.2.1 rfl rfl) q.2.2.1 HL.out (by repeat (first | with_reducible exact Fr.refl _ _ | with_reducible refine Fr.setCell ?_ (.inl (by first | exact .inl rfl | exact .inr rfl)) _)) q.2.2.2

set_option maxRecDepth 100000 in
set_option maxHeartbeats 4000000 in
theorem told313n (s : Str) (w : World) (A : Nat → Prop) (x : X) (c : Array Value) (h : RB w A x c) (hs : s.length ≤ 900000) (hf : Fit 900000 x) (hb : (readA s).2.2 = 0 ∧ (readA s).2.1 = s.length) (hnum : (readA s).1.1 = 313) (ho : x.V = [])  :
    Calls Try.prog 20 #[.agg c, .string ⟨s.toArray⟩] w (ToldP w A (replyR x s)) := by
  rw [reply_ok hb]
  have hR := fun W => rread27_any s W hs
  obtain ⟨⟨⟨num, L⟩, n, e⟩, hr⟩ : ∃ r, r = readA s := ⟨_, rfl⟩
  rw [← hr] at hR hb hnum ⊢
  simp only at hb hnum
  subst hnum
  obtain ⟨rfl, rfl⟩ := hb
  have HE := Lib.hid (leave_none (x := { x with R := x.R ++ [((313 : Int), L)] }) (name := lastR (313, L)) (show opn x.V = none from by rw [ho]; rfl))
  have hll : ∀ l ∈ L, l.length ≤ 900000 := fun l hl => Nat.le_trans (by have := read_le s l (by rw [← hr]; exact hl); exact this) hs
  have HLL := Lib.hid hll
  obtain ⟨B, vR, vV, rv, rfl, hp, hA, hlt⟩ := h
  have hrl := hp.lines.1
  obtain ⟨A5, k5, hu⟩ := own_form hp.rown
  subst hu
  obtain ⟨A6, k6, hu⟩ := own_form hp.vown
  subst hu
  have hfl := hf.1
  have hfv := hf.2.1
  obtain ⟨n5, hn5⟩ : ∃ n5, n5 = rv.length := ⟨_, rfl⟩
  obtain ⟨n6, hn6⟩ : ∃ n6, n6 = x.V.length := ⟨_, rfl⟩
  have hn5l : n5 ≤ 1000000 := by omega
  have hn6l : n6 ≤ 1000000 := by omega
  rw [← hn5, ← hn6] at hp hA ⊢
  have HN := Lib.hid hn5
  have HN6 := Lib.hid hn6
  have HP := Lib.hid hp
  have HA := Lib.hid hA
  have HL := Lib.hid hlt
  have HR := Lib.hid hR
  have HF := Lib.hid hf
  clear hp hA hlt hrl hfl hfv hn5 hn6 hR hf hll hr
  obtain ⟨ro, hro⟩ : ∃ ro, ro = x.role := ⟨_, rfl⟩
  obtain ⟨bd, hbd⟩ : ∃ bd, bd = x.bad := ⟨_, rfl⟩
  have HCX := Lib.hid (And.intro hro hbd)
  rw [show cellsX (.slice A5 n5 k5) (.slice A6 n6 k6) x = #[.slice A5 n5 k5, .slice A6 n6 k6, .int .i64 ro, .bool bd] from by rw [hro, hbd]; rfl]
  clear hro hbd
  have XB := (Blk.new w 31 #[.slice A5 n5 k5, .slice A6 n6 k6, .int .i64 ro, .bool bd]).alloc (.cells #[.slice none 0 0, .slice none 0 0, .int .i64 0, .bool false] 31)
  have XR := Blk.new (w.alloc (.cells #[.slice A5 n5 k5, .slice A6 n6 k6, .int .i64 ro, .bool bd] 31)) 31 #[.slice none 0 0, .slice none 0 0, .int .i64 0, .bool false]
  have FA := Lib.hid (((Fr.refl No w).alloc (.cells #[.slice A5 n5 k5, .slice A6 n6 k6, .int .i64 ro, .bool bd] 31)).alloc (.cells #[.slice none 0 0, .slice none 0 0, .int .i64 0, .bool false] 31))
  rw [size_alloc] at XR
  obtain ⟨bx, hbx⟩ : ∃ bx, w.heap.size = bx := ⟨_, rfl⟩
  obtain ⟨br, hbr⟩ : ∃ br, bx + 1 = br := ⟨_, rfl⟩
  rw [hbx] at XB XR
  rw [hbr] at XR
  go_enter Try.func20, Try.ntmps20
  go_wp2_with fail
  try rw [hbx]
  try rw [hbr]
  generalize (w.alloc (.cells #[.slice A5 n5 k5, .slice A6 n6 k6, .int .i64 ro, .bool bd] 31)).alloc (.cells #[.slice none 0 0, .slice none 0 0, .int .i64 0, .bool false] 31) = wa at XB XR FA ⊢
  have XB := Lib.hid XB
  have XR := Lib.hid XR
  have HBX := Lib.hid hbx
  have HBR := Lib.hid hbr
  have hxr : bx ≠ br := by omega
  have hrx : br ≠ bx := by omega
  clear hbx hbr
  refine (HR.out wa).mono ?_
  rintro ee w1 ⟨v, rfl, hv, hf⟩
  obtain ⟨Ar, cr, rfl, -, -⟩ := hv.slice
  have HV := Lib.hid hv
  have HF1 := Lib.hid hf
  clear hv hf
  have hb1 : ((0 : Int) != 0) = false := rfl
  have hb2 : ((s.length : Int) != (s.length : Int)) = false := by simp
  have hf2 : Fr No wa (w1.alloc (.cells #[.int .i64 313, .slice Ar L.length cr] 69)) := HF1.out.alloc _
  have XB2 := XB.out.fr hf2 (fun h => h)
  have x0 := XB2.cell 0
  simp only [List.getElem?_toArray, List.getElem?_cons_zero, List.getElem?_cons_succ] at x0
  have hro : (w1.alloc (.cells #[.int .i64 313, .slice Ar L.length cr] 69)).ownsRow 0 69 2 (.slice A5 n5 k5) n5 (rv.flatMap encR) := by have hq := (HP.out.no (FA.out.then_no hf2)).rown; rw [← HN.out] at hq; exact hq
  have HRO := Lib.hid hro
  have HX2 := Lib.hid XB2
  clear XB2 hro hf2
  go_upto_region 6 with (at_builtin; go_loud (refine wp_push rfl (.tmp 28) (.tmp 30) 28 rfl 69 (.agg #[.int .i64 0, .slice none 0 0]) 2 32 Try.underlying28 infoR rfl (by decide) (.slice A5 n5 k5) n5 _ rfl HRO.out #[.int .i64 313, .slice Ar L.length cr] (by simp [Act.eval]) rfl (by intro u hu; simp at hu; rcases hu with rfl | rfl <;> rfl) (by omega) (by unfold maxLen; omega) ?_; intro g4 cap4 wq p1 p2 p3; have x4 := HX2.out.fr p2 (fun h => (old_not HP.out (by have := HBX.out; omega)).2.2.1 h); have q0 := x4.cell 0; have q1 := x4.frozen 0; simp only [List.getElem?_toArray, List.getElem?_cons_zero, List.getElem?_cons_succ] at q0; have G := Lib.hid (got_told HP.out HA.out HN.out FA.out HBX.out HBR.out XB.out XR.out HV.out HF1.out p1 p2 p3); clear p1 p2 p3 x4))
  generalize wq.setCell ⟨bx, 0, none⟩ (.slice (some ⟨g4, 0, none⟩) (n5 + 1) cap4) = W at G ⊢
  obtain ⟨y5, hy5⟩ : ∃ y5, y5 = w1.heap.size := ⟨_, rfl⟩
  rw [← hy5] at G ⊢
  have HY5 := Lib.hid hy5
  clear x0 q0 q1 hy5
  have x0 := G.out.xb.cell 0
  have x1 := G.out.xb.cell 1
  have x2 := G.out.xb.cell 2
  have x3 := G.out.xb.cell 3
  have xf0 := G.out.xb.frozen 0
  have xf1 := G.out.xb.frozen 1
  have xf2 := G.out.xb.frozen 2
  have xf3 := G.out.xb.frozen 3
  have r0 := G.out.xr.cell 0
  have r1 := G.out.xr.cell 1
  have r2 := G.out.xr.cell 2
  have r3 := G.out.xr.cell 3
  have rf0 := G.out.xr.frozen 0
  have rf1 := G.out.xr.frozen 1
  have rf2 := G.out.xr.frozen 2
  have rf3 := G.out.xr.frozen 3
  simp only [List.getElem?_toArray, List.getElem?_cons_zero, List.getElem?_cons_succ] at x0 x1 x2 x3 r0 r1 r2 r3
  have y0 := G.out.c5.cell 0
  have y1 := G.out.c5.cell 1
  simp only [List.getElem?_toArray, List.getElem?_cons_zero, List.getElem?_cons_succ] at y0 y1
  have e6 : n6 = 0 := by rw [HN6.out, ho]; rfl
  subst e6
  have HU := Lib.hid ho
  clear ho
  go_wp2_with fail
  go_quiet (fail)
  go_wp2_with fail
  have b9 := (G.out.xr.fr ((Fr.refl No _).drewN nq) (fun h => h))
  have b9 := b9.far (p := ⟨bx, 3, none⟩) hrx (.bool true)
  have b9 := b9.put 0 (.slice (some ⟨g4, 0, none⟩) (n5 + 1) cap4)
  have b9 := b9.put 1 (.slice A6 0 k6)
  have b9 := b9.put 2 (.int .i64 ro)
  have b9 := b9.put 3 (.bool true)
  simp only [List.setIfInBounds_toArray, List.set_cons_zero, List.set_cons_succ] at b9
  have e0 := b9.cell 0
  have e1 := b9.cell 1
  have e2 := b9.cell 2
  have e3 := b9.cell 3
  simp only [List.getElem?_toArray, List.getElem?_cons_zero, List.getElem?_cons_succ] at e0 e1 e2 e3
  clear b9
  refine bodyPost_ret (v := .agg #[.slice (some ⟨g4, 0, none⟩) (n5 + 1) cap4, .slice A6 0 k6, .int .i64 ro, .bool true]) ?_ rfl ?_
  · simp [results, Try.f20, go_sem, e0, e1, e2, e3]
  · rw [show actR { x with R := x.R ++ [((313 : Int), L)] } (313, L) = ({ x with R := x.R ++ [((313 : Int), L)], bad := true } : X) from HE.out]; (try rw [HCX.out.1]); (try rw [HCX.out.2])
    have q := G.out.same ((Fr.refl No _).drewN nq)
    exact told_end (bx := bx) (br := br) (y := ({ x with R := x.R ++ [((313 : Int), L)], bad := true } : X)) q.1 (Rows.like q.2.1 rfl rfl) q.2.2.1 HL.out (by repeat (first | with_reducible exact Fr.refl _ _ | with_reducible refine Fr.setCell ?_ (.inl (by first | exact .inl rfl | exact .inr rfl)) _)) q.2.2.2

set_option maxRecDepth 100000 in
set_option maxHeartbeats 4000000 in
theorem told313h (s : Str) (w : World) (A : Nat → Prop) (x : X) (c : Array Value) (h : RB w A x c) (hs : s.length ≤ 900000) (hf : Fit 900000 x) (hb : (readA s).2.2 = 0 ∧ (readA s).2.1 = s.length) (hnum : (readA s).1.1 = 313) (U : List Vw) (n9 t9 : Str) (ho : x.V = U ++ [(n9, t9, false)])  :
    Calls Try.prog 20 #[.agg c, .string ⟨s.toArray⟩] w (ToldP w A (replyR x s)) := by
  rw [reply_ok hb]
  have hR := fun W => rread27_any s W hs
  obtain ⟨⟨⟨num, L⟩, n, e⟩, hr⟩ : ∃ r, r = readA s := ⟨_, rfl⟩
  rw [← hr] at hR hb hnum ⊢
  simp only at hb hnum
  subst hnum
  obtain ⟨rfl, rfl⟩ := hb
  have HE := Lib.hid (leave_none (x := { x with R := x.R ++ [((313 : Int), L)] }) (name := lastR (313, L)) (show opn x.V = none from by rw [ho]; exact opn_shut _ _ _))
  have hll : ∀ l ∈ L, l.length ≤ 900000 := fun l hl => Nat.le_trans (by have := read_le s l (by rw [← hr]; exact hl); exact this) hs
  have HLL := Lib.hid hll
  obtain ⟨B, vR, vV, rv, rfl, hp, hA, hlt⟩ := h
  have hrl := hp.lines.1
  obtain ⟨A5, k5, hu⟩ := own_form hp.rown
  subst hu
  obtain ⟨A6, k6, hu⟩ := own_form hp.vown
  subst hu
  have hfl := hf.1
  have hfv := hf.2.1
  obtain ⟨n5, hn5⟩ : ∃ n5, n5 = rv.length := ⟨_, rfl⟩
  obtain ⟨n6, hn6⟩ : ∃ n6, n6 = x.V.length := ⟨_, rfl⟩
  have hn5l : n5 ≤ 1000000 := by omega
  have hn6l : n6 ≤ 1000000 := by omega
  rw [← hn5, ← hn6] at hp hA ⊢
  have HN := Lib.hid hn5
  have HN6 := Lib.hid hn6
  have HP := Lib.hid hp
  have HA := Lib.hid hA
  have HL := Lib.hid hlt
  have HR := Lib.hid hR
  have HF := Lib.hid hf
  clear hp hA hlt hrl hfl hfv hn5 hn6 hR hf hll hr
  obtain ⟨ro, hro⟩ : ∃ ro, ro = x.role := ⟨_, rfl⟩
  obtain ⟨bd, hbd⟩ : ∃ bd, bd = x.bad := ⟨_, rfl⟩
  have HCX := Lib.hid (And.intro hro hbd)
  rw [show cellsX (.slice A5 n5 k5) (.slice A6 n6 k6) x = #[.slice A5 n5 k5, .slice A6 n6 k6, .int .i64 ro, .bool bd] from by rw [hro, hbd]; rfl]
  clear hro hbd
  have XB := (Blk.new w 31 #[.slice A5 n5 k5, .slice A6 n6 k6, .int .i64 ro, .bool bd]).alloc (.cells #[.slice none 0 0, .slice none 0 0, .int .i64 0, .bool false] 31)
  have XR := Blk.new (w.alloc (.cells #[.slice A5 n5 k5, .slice A6 n6 k6, .int .i64 ro, .bool bd] 31)) 31 #[.slice none 0 0, .slice none 0 0, .int .i64 0, .bool false]
  have FA := Lib.hid (((Fr.refl No w).alloc (.cells #[.slice A5 n5 k5, .slice A6 n6 k6, .int .i64 ro, .bool bd] 31)).alloc (.cells #[.slice none 0 0, .slice none 0 0, .int .i64 0, .bool false] 31))
  rw [size_alloc] at XR
  obtain ⟨bx, hbx⟩ : ∃ bx, w.heap.size = bx := ⟨_, rfl⟩
  obtain ⟨br, hbr⟩ : ∃ br, bx + 1 = br := ⟨_, rfl⟩
  rw [hbx] at XB XR
  rw [hbr] at XR
  go_enter Try.func20, Try.ntmps20
  go_wp2_with fail
  try rw [hbx]
  try rw [hbr]
  generalize (w.alloc (.cells #[.slice A5 n5 k5, .slice A6 n6 k6, .int .i64 ro, .bool bd] 31)).alloc (.cells #[.slice none 0 0, .slice none 0 0, .int .i64 0, .bool false] 31) = wa at XB XR FA ⊢
  have XB := Lib.hid XB
  have XR := Lib.hid XR
  have HBX := Lib.hid hbx
  have HBR := Lib.hid hbr
  have hxr : bx ≠ br := by omega
  have hrx : br ≠ bx := by omega
  clear hbx hbr
  refine (HR.out wa).mono ?_
  rintro ee w1 ⟨v, rfl, hv, hf⟩
  obtain ⟨Ar, cr, rfl, -, -⟩ := hv.slice
  have HV := Lib.hid hv
  have HF1 := Lib.hid hf
  clear hv hf
  have hb1 : ((0 : Int) != 0) = false := rfl
  have hb2 : ((s.length : Int) != (s.length : Int)) = false := by simp
  have hf2 : Fr No wa (w1.alloc (.cells #[.int .i64 313, .slice Ar L.length cr] 69)) := HF1.out.alloc _
  have XB2 := XB.out.fr hf2 (fun h => h)
  have x0 := XB2.cell 0
  simp only [List.getElem?_toArray, List.getElem?_cons_zero, List.getElem?_cons_succ] at x0
  have hro : (w1.alloc (.cells #[.int .i64 313, .slice Ar L.length cr] 69)).ownsRow 0 69 2 (.slice A5 n5 k5) n5 (rv.flatMap encR) := by have hq := (HP.out.no (FA.out.then_no hf2)).rown; rw [← HN.out] at hq; exact hq
  have HRO := Lib.hid hro
  have HX2 := Lib.hid XB2
  clear XB2 hro hf2
  go_upto_region 6 with (at_builtin; go_loud (refine wp_push rfl (.tmp 28) (.tmp 30) 28 rfl 69 (.agg #[.int .i64 0, .slice none 0 0]) 2 32 Try.underlying28 infoR rfl (by decide) (.slice A5 n5 k5) n5 _ rfl HRO.out #[.int .i64 313, .slice Ar L.length cr] (by simp [Act.eval]) rfl (by intro u hu; simp at hu; rcases hu with rfl | rfl <;> rfl) (by omega) (by unfold maxLen; omega) ?_; intro g4 cap4 wq p1 p2 p3; have x4 := HX2.out.fr p2 (fun h => (old_not HP.out (by have := HBX.out; omega)).2.2.1 h); have q0 := x4.cell 0; have q1 := x4.frozen 0; simp only [List.getElem?_toArray, List.getElem?_cons_zero, List.getElem?_cons_succ] at q0; have G := Lib.hid (got_told HP.out HA.out HN.out FA.out HBX.out HBR.out XB.out XR.out HV.out HF1.out p1 p2 p3); clear p1 p2 p3 x4))
  generalize wq.setCell ⟨bx, 0, none⟩ (.slice (some ⟨g4, 0, none⟩) (n5 + 1) cap4) = W at G ⊢
  obtain ⟨y5, hy5⟩ : ∃ y5, y5 = w1.heap.size := ⟨_, rfl⟩
  rw [← hy5] at G ⊢
  have HY5 := Lib.hid hy5
  clear x0 q0 q1 hy5
  have x0 := G.out.xb.cell 0
  have x1 := G.out.xb.cell 1
  have x2 := G.out.xb.cell 2
  have x3 := G.out.xb.cell 3
  have xf0 := G.out.xb.frozen 0
  have xf1 := G.out.xb.frozen 1
  have xf2 := G.out.xb.frozen 2
  have xf3 := G.out.xb.frozen 3
  have r0 := G.out.xr.cell 0
  have r1 := G.out.xr.cell 1
  have r2 := G.out.xr.cell 2
  have r3 := G.out.xr.cell 3
  have rf0 := G.out.xr.frozen 0
  have rf1 := G.out.xr.frozen 1
  have rf2 := G.out.xr.frozen 2
  have rf3 := G.out.xr.frozen 3
  simp only [List.getElem?_toArray, List.getElem?_cons_zero, List.getElem?_cons_succ] at x0 x1 x2 x3 r0 r1 r2 r3
  have y0 := G.out.c5.cell 0
  have y1 := G.out.c5.cell 1
  simp only [List.getElem?_toArray, List.getElem?_cons_zero, List.getElem?_cons_succ] at y0 y1
  have hv6 := G.out.rows.vown
  have hl6 := HN6.out
  rw [ho] at hl6
  simp only [List.length_append, List.length_singleton] at hl6
  obtain ⟨m, hm⟩ : ∃ m, m = U.length := ⟨_, rfl⟩
  rw [← hm] at hl6
  subst hl6
  obtain ⟨gV, c9, hgV⟩ := own_pos hv6 (show 0 < x.V.length by rw [ho]; simp)
  injection hgV with hgV h92 h93
  subst hgV
  subst h93
  clear h92
  obtain ⟨v0, v1, v2⟩ := G.out.rows.at_ ho hm
  have hb0 : decide (((m + 1 : Nat) : Int) - 1 ≥ 0) = true := decide_eq_true (by omega)
  have hmc : m + 1 ≤ k6 := by
    rcases HP.out.vown.2 with ⟨h1, h2⟩ | ⟨g, cap, cur, h1, h2, h3, h4, h5, _⟩
    · cases h1
    · injection h1 with _ _ h1; rw [h1]; rw [← HN6.out] at h4; exact h4
  have hmc2 : m ≤ k6 := by omega
  have hlt9 : (m : Int) < (m : Int) + 1 := by omega
  have hxg : bx ≠ gV := fun e => (G.out.hb bx (.inl rfl)).2.2.2 (by rw [e]; rfl)
  have hgx : gV ≠ bx := fun e => hxg e.symm
  have HM := Lib.hid hm
  have HU := Lib.hid ho
  clear hv6 hm ho
  go_wp2_with fail
  go_quiet (fail)
  go_wp2_with fail
  have b9 := (G.out.xr.fr ((Fr.refl No _).drewN nq) (fun h => h))
  have b9 := b9.far (p := ⟨bx, 3, none⟩) hrx (.bool true)
  have b9 := b9.put 0 (.slice (some ⟨g4, 0, none⟩) (n5 + 1) cap4)
  have b9 := b9.put 1 (.slice (some ⟨gV, 0, none⟩) (m + 1) k6)
  have b9 := b9.put 2 (.int .i64 ro)
  have b9 := b9.put 3 (.bool true)
  simp only [List.setIfInBounds_toArray, List.set_cons_zero, List.set_cons_succ] at b9
  have e0 := b9.cell 0
  have e1 := b9.cell 1
  have e2 := b9.cell 2
  have e3 := b9.cell 3
  simp only [List.getElem?_toArray, List.getElem?_cons_zero, List.getElem?_cons_succ] at e0 e1 e2 e3
  clear b9
  refine bodyPost_ret (v := .agg #[.slice (some ⟨g4, 0, none⟩) (n5 + 1) cap4, .slice (some ⟨gV, 0, none⟩) (m + 1) k6, .int .i64 ro, .bool true]) ?_ rfl ?_
  · simp [results, Try.f20, go_sem, e0, e1, e2, e3]
  · rw [show actR { x with R := x.R ++ [((313 : Int), L)] } (313, L) = ({ x with R := x.R ++ [((313 : Int), L)], bad := true } : X) from HE.out]; (try rw [HCX.out.1]); (try rw [HCX.out.2])
    have q := G.out.same ((Fr.refl No _).drewN nq)
    exact told_end (bx := bx) (br := br) (y := ({ x with R := x.R ++ [((313 : Int), L)], bad := true } : X)) q.1 (Rows.like q.2.1 rfl rfl) q.2.2.1 HL.out (by repeat (first | with_reducible exact Fr.refl _ _ | with_reducible refine Fr.setCell ?_ (.inl (by first | exact .inl rfl | exact .inr rfl)) _)) q.2.2.2

set_option maxRecDepth 100000 in
set_option maxHeartbeats 4000000 in
theorem told313o (s : Str) (w : World) (A : Nat → Prop) (x : X) (c : Array Value) (h : RB w A x c) (hs : s.length ≤ 900000) (hf : Fit 900000 x) (hb : (readA s).2.2 = 0 ∧ (readA s).2.1 = s.length) (hnum : (readA s).1.1 = 313) (U : List Vw) (n9 t9 : Str) (ho : x.V = U ++ [(n9, t9, true)]) (hn : n9 ≠ lastR (readA s).1) :
    Calls Try.prog 20 #[.agg c, .string ⟨s.toArray⟩] w (ToldP w A (replyR x s)) := by
  rw [reply_ok hb]
  have hR := fun W => rread27_any s W hs
  obtain ⟨⟨⟨num, L⟩, n, e⟩, hr⟩ : ∃ r, r = readA s := ⟨_, rfl⟩
  rw [← hr] at hR hb hnum hn ⊢
  simp only at hb hnum hn
  subst hnum
  obtain ⟨rfl, rfl⟩ := hb
  have HE := Lib.hid (leave_other (x := { x with R := x.R ++ [((313 : Int), L)] }) (name := lastR (313, L)) (show opn x.V = some (n9, t9) from by rw [ho]; exact opn_snoc _ _ _) hn)
  have hs1 : (n9 == lastR (313, L)) = false := str_f hn
  have hs2 : (n9 != lastR (313, L)) = true := by rw [bne, hs1]; rfl
  clear hn
  have hll : ∀ l ∈ L, l.length ≤ 900000 := fun l hl => Nat.le_trans (by have := read_le s l (by rw [← hr]; exact hl); exact this) hs
  have HLL := Lib.hid hll
  obtain ⟨B, vR, vV, rv, rfl, hp, hA, hlt⟩ := h
  have hrl := hp.lines.1
  obtain ⟨A5, k5, hu⟩ := own_form hp.rown
  subst hu
  obtain ⟨A6, k6, hu⟩ := own_form hp.vown
  subst hu
  have hfl := hf.1
  have hfv := hf.2.1
  obtain ⟨n5, hn5⟩ : ∃ n5, n5 = rv.length := ⟨_, rfl⟩
  obtain ⟨n6, hn6⟩ : ∃ n6, n6 = x.V.length := ⟨_, rfl⟩
  have hn5l : n5 ≤ 1000000 := by omega
  have hn6l : n6 ≤ 1000000 := by omega
  rw [← hn5, ← hn6] at hp hA ⊢
  have HN := Lib.hid hn5
  have HN6 := Lib.hid hn6
  have HP := Lib.hid hp
  have HA := Lib.hid hA
  have HL := Lib.hid hlt
  have HR := Lib.hid hR
  have HF := Lib.hid hf
  clear hp hA hlt hrl hfl hfv hn5 hn6 hR hf hll hr
  obtain ⟨ro, hro⟩ : ∃ ro, ro = x.role := ⟨_, rfl⟩
  obtain ⟨bd, hbd⟩ : ∃ bd, bd = x.bad := ⟨_, rfl⟩
  have HCX := Lib.hid (And.intro hro hbd)
  rw [show cellsX (.slice A5 n5 k5) (.slice A6 n6 k6) x = #[.slice A5 n5 k5, .slice A6 n6 k6, .int .i64 ro, .bool bd] from by rw [hro, hbd]; rfl]
  clear hro hbd
  have XB := (Blk.new w 31 #[.slice A5 n5 k5, .slice A6 n6 k6, .int .i64 ro, .bool bd]).alloc (.cells #[.slice none 0 0, .slice none 0 0, .int .i64 0, .bool false] 31)
  have XR := Blk.new (w.alloc (.cells #[.slice A5 n5 k5, .slice A6 n6 k6, .int .i64 ro, .bool bd] 31)) 31 #[.slice none 0 0, .slice none 0 0, .int .i64 0, .bool false]
  have FA := Lib.hid (((Fr.refl No w).alloc (.cells #[.slice A5 n5 k5, .slice A6 n6 k6, .int .i64 ro, .bool bd] 31)).alloc (.cells #[.slice none 0 0, .slice none 0 0, .int .i64 0, .bool false] 31))
  rw [size_alloc] at XR
  obtain ⟨bx, hbx⟩ : ∃ bx, w.heap.size = bx := ⟨_, rfl⟩
  obtain ⟨br, hbr⟩ : ∃ br, bx + 1 = br := ⟨_, rfl⟩
  rw [hbx] at XB XR
  rw [hbr] at XR
  go_enter Try.func20, Try.ntmps20
  go_wp2_with fail
  try rw [hbx]
  try rw [hbr]
  generalize (w.alloc (.cells #[.slice A5 n5 k5, .slice A6 n6 k6, .int .i64 ro, .bool bd] 31)).alloc (.cells #[.slice none 0 0, .slice none 0 0, .int .i64 0, .bool false] 31) = wa at XB XR FA ⊢
  have XB := Lib.hid XB
  have XR := Lib.hid XR
  have HBX := Lib.hid hbx
  have HBR := Lib.hid hbr
  have hxr : bx ≠ br := by omega
  have hrx : br ≠ bx := by omega
  clear hbx hbr
  refine (HR.out wa).mono ?_
  rintro ee w1 ⟨v, rfl, hv, hf⟩
  obtain ⟨Ar, cr, rfl, -, -⟩ := hv.slice
  have HV := Lib.hid hv
  have HF1 := Lib.hid hf
  clear hv hf
  have hb1 : ((0 : Int) != 0) = false := rfl
  have hb2 : ((s.length : Int) != (s.length : Int)) = false := by simp
  have hf2 : Fr No wa (w1.alloc (.cells #[.int .i64 313, .slice Ar L.length cr] 69)) := HF1.out.alloc _
  have XB2 := XB.out.fr hf2 (fun h => h)
  have x0 := XB2.cell 0
  simp only [List.getElem?_toArray, List.getElem?_cons_zero, List.getElem?_cons_succ] at x0
  have hro : (w1.alloc (.cells #[.int .i64 313, .slice Ar L.length cr] 69)).ownsRow 0 69 2 (.slice A5 n5 k5) n5 (rv.flatMap encR) := by have hq := (HP.out.no (FA.out.then_no hf2)).rown; rw [← HN.out] at hq; exact hq
  have HRO := Lib.hid hro
  have HX2 := Lib.hid XB2
  clear XB2 hro hf2
  go_upto_region 6 with (at_builtin; go_loud (refine wp_push rfl (.tmp 28) (.tmp 30) 28 rfl 69 (.agg #[.int .i64 0, .slice none 0 0]) 2 32 Try.underlying28 infoR rfl (by decide) (.slice A5 n5 k5) n5 _ rfl HRO.out #[.int .i64 313, .slice Ar L.length cr] (by simp [Act.eval]) rfl (by intro u hu; simp at hu; rcases hu with rfl | rfl <;> rfl) (by omega) (by unfold maxLen; omega) ?_; intro g4 cap4 wq p1 p2 p3; have x4 := HX2.out.fr p2 (fun h => (old_not HP.out (by have := HBX.out; omega)).2.2.1 h); have q0 := x4.cell 0; have q1 := x4.frozen 0; simp only [List.getElem?_toArray, List.getElem?_cons_zero, List.getElem?_cons_succ] at q0; have G := Lib.hid (got_told HP.out HA.out HN.out FA.out HBX.out HBR.out XB.out XR.out HV.out HF1.out p1 p2 p3); clear p1 p2 p3 x4))
  generalize wq.setCell ⟨bx, 0, none⟩ (.slice (some ⟨g4, 0, none⟩) (n5 + 1) cap4) = W at G ⊢
  obtain ⟨y5, hy5⟩ : ∃ y5, y5 = w1.heap.size := ⟨_, rfl⟩
  rw [← hy5] at G ⊢
  have HY5 := Lib.hid hy5
  clear x0 q0 q1 hy5
  have x0 := G.out.xb.cell 0
  have x1 := G.out.xb.cell 1
  have x2 := G.out.xb.cell 2
  have x3 := G.out.xb.cell 3
  have xf0 := G.out.xb.frozen 0
  have xf1 := G.out.xb.frozen 1
  have xf2 := G.out.xb.frozen 2
  have xf3 := G.out.xb.frozen 3
  have r0 := G.out.xr.cell 0
  have r1 := G.out.xr.cell 1
  have r2 := G.out.xr.cell 2
  have r3 := G.out.xr.cell 3
  have rf0 := G.out.xr.frozen 0
  have rf1 := G.out.xr.frozen 1
  have rf2 := G.out.xr.frozen 2
  have rf3 := G.out.xr.frozen 3
  simp only [List.getElem?_toArray, List.getElem?_cons_zero, List.getElem?_cons_succ] at x0 x1 x2 x3 r0 r1 r2 r3
  have y0 := G.out.c5.cell 0
  have y1 := G.out.c5.cell 1
  simp only [List.getElem?_toArray, List.getElem?_cons_zero, List.getElem?_cons_succ] at y0 y1
  have hv6 := G.out.rows.vown
  have hl6 := HN6.out
  rw [ho] at hl6
  simp only [List.length_append, List.length_singleton] at hl6
  obtain ⟨m, hm⟩ : ∃ m, m = U.length := ⟨_, rfl⟩
  rw [← hm] at hl6
  subst hl6
  obtain ⟨gV, c9, hgV⟩ := own_pos hv6 (show 0 < x.V.length by rw [ho]; simp)
  injection hgV with hgV h92 h93
  subst hgV
  subst h93
  clear h92
  obtain ⟨v0, v1, v2⟩ := G.out.rows.at_ ho hm
  have hb0 : decide (((m + 1 : Nat) : Int) - 1 ≥ 0) = true := decide_eq_true (by omega)
  have hmc : m + 1 ≤ k6 := by
    rcases HP.out.vown.2 with ⟨h1, h2⟩ | ⟨g, cap, cur, h1, h2, h3, h4, h5, _⟩
    · cases h1
    · injection h1 with _ _ h1; rw [h1]; rw [← HN6.out] at h4; exact h4
  have hmc2 : m ≤ k6 := by omega
  have hlt9 : (m : Int) < (m : Int) + 1 := by omega
  have hxg : bx ≠ gV := fun e => (G.out.hb bx (.inl rfl)).2.2.2 (by rw [e]; rfl)
  have hgx : gV ≠ bx := fun e => hxg e.symm
  have HM := Lib.hid hm
  have HU := Lib.hid ho
  clear hv6 hm ho
  have HK3 := Lib.hid (show ∀ X, Fr No W X → X.cell? ⟨bx, 1, none⟩ = some (.slice (some ⟨gV, 0, none⟩) (m + 1) k6) ∧ X.cell? ⟨gV, m * 3, none⟩ = some (.string ⟨n9.toArray⟩) ∧ X.cell? ⟨y5, 0, none⟩ = some (.int .i64 313) ∧ X.cell? ⟨y5, 1, none⟩ = some (.slice Ar L.length cr) from fun X hX => ⟨(G.out.xb.fr hX (fun h => h)).cell 1, ((G.out.rows.no hX).at_ HU.out HM.out).1, (G.out.c5.fr hX (fun h => h)).cell 0, (G.out.c5.fr hX (fun h => h)).cell 1⟩)
  have HLA := Lib.hid (fun X (hX : Fr No W X) => (rlast_any 313 (.slice Ar L.length cr) L X _ (fun k hk => Nat.lt_of_lt_of_le (G.out.rows.hB k hk).1 hX.size) (str_keep G.out.ls hX (fun k hk => (G.out.rows.hB k hk).1)) HLL.out).mono fun e' w' hh => And.intro hh.1 (hX.then_no hh.2))
  go_upto_region 22 with (fail)
  clear x0 x1 x2 x3 xf0 xf1 xf2 xf3 r0 r1 r2 r3 rf0 rf1 rf2 rf3 v0 v1 v2 y0 y1
  go_region_held3 (fun X => X.cell? ⟨bx, 1, none⟩ = some (.slice (some ⟨gV, 0, none⟩) (m + 1) k6) ∧ X.cell? ⟨gV, m * 3, none⟩ = some (.string ⟨n9.toArray⟩) ∧ X.cell? ⟨y5, 0, none⟩ = some (.int .i64 313) ∧ X.cell? ⟨y5, 1, none⟩ = some (.slice Ar L.length cr)) ((refine HK3.out _ ?_; (repeat' (first | with_reducible assumption | with_reducible exact Fr.refl _ _ | with_reducible refine Fr.drew ?_ | with_reducible refine Fr.drewN ?_ _ | with_reducible refine Fr.alloc ?_ _)))) ((go_at_call 34; refine (HLA.out _ (by (repeat' (first | with_reducible assumption | with_reducible exact Fr.refl _ _ | with_reducible refine Fr.drew ?_ | with_reducible refine Fr.drewN ?_ _ | with_reducible refine Fr.alloc ?_ _)))).mono ?_; rintro e2 w6 ⟨rfl, f6⟩))
  have HX6 := Lib.hid (G.out.xb.fr f6 (fun h => h))
  have HR6 := Lib.hid (G.out.xr.fr f6 (fun h => h))
  have x0 := HX6.out.cell 0
  have x1 := HX6.out.cell 1
  have x2 := HX6.out.cell 2
  have x3 := HX6.out.cell 3
  have xf0 := HX6.out.frozen 0
  have xf1 := HX6.out.frozen 1
  have xf2 := HX6.out.frozen 2
  have xf3 := HX6.out.frozen 3
  have r0 := HR6.out.cell 0
  have r1 := HR6.out.cell 1
  have r2 := HR6.out.cell 2
  have r3 := HR6.out.cell 3
  have rf0 := HR6.out.frozen 0
  have rf1 := HR6.out.frozen 1
  have rf2 := HR6.out.frozen 2
  have rf3 := HR6.out.frozen 3
  simp only [List.getElem?_toArray, List.getElem?_cons_zero, List.getElem?_cons_succ] at x0 x1 x2 x3 r0 r1 r2 r3
  go_wp2_with fail
  have b9 := HR6.out
  have b9 := b9.far (p := ⟨bx, 3, none⟩) hrx (.bool true)
  have b9 := b9.put 0 (.slice (some ⟨g4, 0, none⟩) (n5 + 1) cap4)
  have b9 := b9.put 1 (.slice (some ⟨gV, 0, none⟩) (m + 1) k6)
  have b9 := b9.put 2 (.int .i64 ro)
  have b9 := b9.put 3 (.bool true)
  simp only [List.setIfInBounds_toArray, List.set_cons_zero, List.set_cons_succ] at b9
  have e0 := b9.cell 0
  have e1 := b9.cell 1
  have e2 := b9.cell 2
  have e3 := b9.cell 3
  simp only [List.getElem?_toArray, List.getElem?_cons_zero, List.getElem?_cons_succ] at e0 e1 e2 e3
  clear b9
  refine bodyPost_ret (v := .agg #[.slice (some ⟨g4, 0, none⟩) (n5 + 1) cap4, .slice (some ⟨gV, 0, none⟩) (m + 1) k6, .int .i64 ro, .bool true]) ?_ rfl ?_
  · simp [results, Try.f20, go_sem, e0, e1, e2, e3]
  · rw [show actR { x with R := x.R ++ [((313 : Int), L)] } (313, L) = ({ x with R := x.R ++ [((313 : Int), L)], bad := true } : X) from HE.out]; (try rw [HCX.out.1]); (try rw [HCX.out.2])
    have q := G.out.same (f6)
    exact told_end (bx := bx) (br := br) (y := ({ x with R := x.R ++ [((313 : Int), L)], bad := true } : X)) q.1 (Rows.like q.2.1 rfl rfl) q.2.2.1 HL.out (by repeat (first | with_reducible exact Fr.refl _ _ | with_reducible refine Fr.setCell ?_ (.inl (by first | exact .inl rfl | exact .inr rfl)) _)) q.2.2.2

end Rd
end Go.Proofs.Ytmmdiccpifepfaa
