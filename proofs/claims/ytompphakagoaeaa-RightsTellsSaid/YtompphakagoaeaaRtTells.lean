/- Rights: the walk of Tells. Printed by gen_rtlaw.py. -/
import Derived.Test.YtompphakagoaeaaRtHead
import Derived.BigQuiet
import Derived.Deep.CutRange
import Derived.Deep.RegionHeld3
namespace Go.Proofs.Ytompphakagoaeaa
open Go.RowKit
set_option linter.unusedVariables false
set_option linter.unusedSimpArgs false
namespace Conf
open Word
set_option maxRecDepth 100000 in
set_option maxHeartbeats 4000000 in
theorem walk_RightsTells (W : World) (c0 : Array Value) (x0 : ((List (Str × (Int × (Int × (Int × (Int × (Int × (Int × (Int × (Int × Str)))))))))) × ((List (Str × (List Str))) × ((List (Str × Str)) × ((List (Str × (Str × Int))) × (List Str)))))) (h0 : (RTwo 1 (RSl 10 (RTwo 1 RStr (RTwo 1 (RInt .i64) (RTwo 1 (RInt .i64) (RTwo 1 (RInt .i64) (RTwo 1 (RInt .i64) (RTwo 1 (RInt .i64) (RTwo 1 (RInt .i64) (RTwo 1 (RInt .i64) (RTwo 1 (RInt .i64) RStr)))))))))) (RTwo 1 (RSl 2 (RTwo 1 RStr (RSl 1 RStr))) (RTwo 1 (RSl 2 (RTwo 1 RStr RStr)) (RTwo 1 (RSl 3 (RTwo 1 RStr (RTwo 1 RStr (RInt .i64)))) (RArr 10 1 RStr))))) W (Ahead W.heap.size) c0.toList x0) (v1 : Value) (x1 : Str) (h1 : RStr W (Ahead W.heap.size) [v1] x1) (v2 : Value) (x2 : Str) (h2 : RStr W (Ahead W.heap.size) [v2] x2) (v3 : Value) (x3 : Str) (h3 : RStr W (Ahead W.heap.size) [v3] x3) (v4 : Value) (x4 : Int) (h4 : (RInt .i64) W (Ahead W.heap.size) [v4] x4) : Calls Try.prog 3 #[.agg c0, v1, v2, v3, v4] W fun e w' => e = .returned (.bool true) ∧ Fr No W w' := by
  obtain ⟨h1a, -⟩ := h1
  injection h1a with h1a _
  subst h1a
  obtain ⟨h2a, -⟩ := h2
  injection h2a with h2a _
  subst h2a
  obtain ⟨h3a, -⟩ := h3
  injection h3a with h3a _
  subst h3a
  obtain ⟨h4a, h4b⟩ := h4
  injection h4a with h4a _
  subst h4a
  have H4 := Lib.hid h4b
  clear h4b
  obtain ⟨AaC, AaG, AaU, AaA, naC, kaC, naG, kaG, naU, kaU, naA, kaA, s0, s1, s2, s3, s4, s5, s6, s7, s8, s9, hc0⟩ := r_cells h0
  rw [hc0] at h0 ⊢
  have H0 := Lib.hid h0
  clear hc0 h0
  have F1 := Lib.hid ((Fr.refl No W).alloc (.cells #[.slice AaC naC kaC, .slice AaG naG kaG, .slice AaU naU kaU, .slice AaA naA kaA, .string ⟨s0.toArray⟩, .string ⟨s1.toArray⟩, .string ⟨s2.toArray⟩, .string ⟨s3.toArray⟩, .string ⟨s4.toArray⟩, .string ⟨s5.toArray⟩, .string ⟨s6.toArray⟩, .string ⟨s7.toArray⟩, .string ⟨s8.toArray⟩, .string ⟨s9.toArray⟩] 28))
  have B1 := Lib.hid (Blk.new W 28 #[.slice AaC naC kaC, .slice AaG naG kaG, .slice AaU naU kaU, .slice AaA naA kaA, .string ⟨s0.toArray⟩, .string ⟨s1.toArray⟩, .string ⟨s2.toArray⟩, .string ⟨s3.toArray⟩, .string ⟨s4.toArray⟩, .string ⟨s5.toArray⟩, .string ⟨s6.toArray⟩, .string ⟨s7.toArray⟩, .string ⟨s8.toArray⟩, .string ⟨s9.toArray⟩])
  go_enter Try.func3, Try.ntmps3
  go_wp2_with fail
  refine (few_any #[.slice AaC naC kaC, .slice AaG naG kaG, .slice AaU naU kaU, .slice AaA naA kaA, .string ⟨s0.toArray⟩, .string ⟨s1.toArray⟩, .string ⟨s2.toArray⟩, .string ⟨s3.toArray⟩, .string ⟨s4.toArray⟩, .string ⟨s5.toArray⟩, .string ⟨s6.toArray⟩, .string ⟨s7.toArray⟩, .string ⟨s8.toArray⟩, .string ⟨s9.toArray⟩] x0 _ (Ahead W.heap.size) (fun k hk => Nat.lt_of_lt_of_le hk F1.out.size) (Conf.stable.go H0.out (Kept.of_no F1.out fun k hk => hk) fun b hb => hb)).mono ?_
  intro e w2 hp
  obtain ⟨cs, y, rfl, hy, hf2⟩ := hp
  obtain ⟨AbC, kbC, AbG, kbG, AbU, kbU, AbA, kbA, r0, r1, r2, r3, r4, r5, r6, r7, r8, r9, rfl, hyC, -, -, hyA⟩ := q_lit hy
  generalize hnA : y.2.2.2.1.length = nbA at hy hyA ⊢
  generalize y.2.2.1.length = nbU at hy ⊢
  generalize y.2.1.length = nbG at hy ⊢
  generalize hnC : y.1.length = nbC at hy hyC ⊢
  have hb2 := B1.out.fr hf2 (fun h => h)
  have c0 := hb2.cell 0
  have c1 := hb2.cell 1
  have c2 := hb2.cell 2
  have c3 := hb2.cell 3
  have c4 := hb2.cell 4
  have c5 := hb2.cell 5
  have c6 := hb2.cell 6
  have c7 := hb2.cell 7
  have c8 := hb2.cell 8
  have c9 := hb2.cell 9
  have c10 := hb2.cell 10
  have c11 := hb2.cell 11
  have c12 := hb2.cell 12
  have c13 := hb2.cell 13
  have z0 := hb2.frozen 0
  have z1 := hb2.frozen 1
  have z2 := hb2.frozen 2
  have z3 := hb2.frozen 3
  have z4 := hb2.frozen 4
  have z5 := hb2.frozen 5
  have z6 := hb2.frozen 6
  have z7 := hb2.frozen 7
  have z8 := hb2.frozen 8
  have z9 := hb2.frozen 9
  have z10 := hb2.frozen 10
  have z11 := hb2.frozen 11
  have z12 := hb2.frozen 12
  have z13 := hb2.frozen 13
  simp only [List.getElem?_toArray, List.getElem?_cons_zero, List.getElem?_cons_succ] at c0 c1 c2 c3 c4 c5 c6 c7 c8 c9 c10 c11 c12 c13
  have B2 := Lib.hid hb2
  have F2 := Lib.hid (F1.out.then_no hf2)
  have hs2 := hf2.size
  have S1 := Lib.hid (size_alloc W (.cells #[.slice AaC naC kaC, .slice AaG naG kaG, .slice AaU naU kaU, .slice AaA naA kaA, .string ⟨s0.toArray⟩, .string ⟨s1.toArray⟩, .string ⟨s2.toArray⟩, .string ⟨s3.toArray⟩, .string ⟨s4.toArray⟩, .string ⟨s5.toArray⟩, .string ⟨s6.toArray⟩, .string ⟨s7.toArray⟩, .string ⟨s8.toArray⟩, .string ⟨s9.toArray⟩] 28))
  have HY := Lib.hid (And.intro hy (And.intro hyC hyA))
  clear hb2 hf2 hy hyC hyA
  obtain ⟨bc, hbc⟩ : ∃ bc, W.heap.size = bc := ⟨_, rfl⟩
  rw [hbc] at B2 c0 z0 c1 z1 c2 z2 c3 z3 c4 z4 c5 z5 c6 z6 c7 z7 c8 z8 c9 z9 c10 z10 c11 z11 c12 z12 c13 z13 ⊢
  rw [hbc] at S1
  have Hbc := Lib.hid hbc
  clear hbc
  go_wp2_with (go_at_call 7; refine (cut40_any _ _).mono ?_; rintro e w' ⟨rfl, rfl⟩)
  have b3 := ((((((((((((((B2.out.put 0 (.slice AbC nbC kbC)).put 1 (.slice AbG nbG kbG)).put 2 (.slice AbU nbU kbU)).put 3 (.slice AbA nbA kbA)).put 4 (.string ⟨r0.toArray⟩)).put 5 (.string ⟨r1.toArray⟩)).put 6 (.string ⟨r2.toArray⟩)).put 7 (.string ⟨r3.toArray⟩)).put 8 (.string ⟨r4.toArray⟩)).put 9 (.string ⟨r5.toArray⟩)).put 10 (.string ⟨r6.toArray⟩)).put 11 (.string ⟨r7.toArray⟩)).put 12 (.string ⟨r8.toArray⟩)).put 13 (.string ⟨r9.toArray⟩))
  simp only [List.setIfInBounds_toArray, List.set_cons_zero, List.set_cons_succ] at b3
  have f3 : Fr (Just bc) w2 _ := ((((((((((((((Fr.refl (Just bc) w2).setCell (p := ⟨bc, 0, none⟩) (.inl rfl) (.slice AbC nbC kbC)).setCell (p := ⟨bc, 1, none⟩) (.inl rfl) (.slice AbG nbG kbG)).setCell (p := ⟨bc, 2, none⟩) (.inl rfl) (.slice AbU nbU kbU)).setCell (p := ⟨bc, 3, none⟩) (.inl rfl) (.slice AbA nbA kbA)).setCell (p := ⟨bc, 4, none⟩) (.inl rfl) (.string ⟨r0.toArray⟩)).setCell (p := ⟨bc, 5, none⟩) (.inl rfl) (.string ⟨r1.toArray⟩)).setCell (p := ⟨bc, 6, none⟩) (.inl rfl) (.string ⟨r2.toArray⟩)).setCell (p := ⟨bc, 7, none⟩) (.inl rfl) (.string ⟨r3.toArray⟩)).setCell (p := ⟨bc, 8, none⟩) (.inl rfl) (.string ⟨r4.toArray⟩)).setCell (p := ⟨bc, 9, none⟩) (.inl rfl) (.string ⟨r5.toArray⟩)).setCell (p := ⟨bc, 10, none⟩) (.inl rfl) (.string ⟨r6.toArray⟩)).setCell (p := ⟨bc, 11, none⟩) (.inl rfl) (.string ⟨r7.toArray⟩)).setCell (p := ⟨bc, 12, none⟩) (.inl rfl) (.string ⟨r8.toArray⟩)).setCell (p := ⟨bc, 13, none⟩) (.inl rfl) (.string ⟨r9.toArray⟩)
  generalize ((((((((((((((w2.setCell ⟨bc, 0, none⟩ (.slice AbC nbC kbC)).setCell ⟨bc, 1, none⟩ (.slice AbG nbG kbG)).setCell ⟨bc, 2, none⟩ (.slice AbU nbU kbU)).setCell ⟨bc, 3, none⟩ (.slice AbA nbA kbA)).setCell ⟨bc, 4, none⟩ (.string ⟨r0.toArray⟩)).setCell ⟨bc, 5, none⟩ (.string ⟨r1.toArray⟩)).setCell ⟨bc, 6, none⟩ (.string ⟨r2.toArray⟩)).setCell ⟨bc, 7, none⟩ (.string ⟨r3.toArray⟩)).setCell ⟨bc, 8, none⟩ (.string ⟨r4.toArray⟩)).setCell ⟨bc, 9, none⟩ (.string ⟨r5.toArray⟩)).setCell ⟨bc, 10, none⟩ (.string ⟨r6.toArray⟩)).setCell ⟨bc, 11, none⟩ (.string ⟨r7.toArray⟩)).setCell ⟨bc, 12, none⟩ (.string ⟨r8.toArray⟩)).setCell ⟨bc, 13, none⟩ (.string ⟨r9.toArray⟩)) = W3 at b3 f3 ⊢
  clear c0 z0 c1 z1 c2 z2 c3 z3 c4 z4 c5 z5 c6 z6 c7 z7 c8 z8 c9 z9 c10 z10 c11 z11 c12 z12 c13 z13
  have B3 := Lib.hid b3
  have F3 := Lib.hid (F2.out.trans f3 fun k hk hl => by have hk : k = bc := hk; have := Hbc.out; omega)
  have hs3 := f3.size
  obtain ⟨hi, hhi⟩ : ∃ hi, hi = w2.heap.size := ⟨_, rfl⟩
  have hlt3 : bc + 1 ≤ hi ∧ hi ≤ W3.heap.size := by have := B2.out.lt; omega
  have hkp : Kept (New (W.alloc (.cells #[.slice AaC naC kaC, .slice AaG naG kaG, .slice AaU naU kaU, .slice AaA naA kaA, .string ⟨s0.toArray⟩, .string ⟨s1.toArray⟩, .string ⟨s2.toArray⟩, .string ⟨s3.toArray⟩, .string ⟨s4.toArray⟩, .string ⟨s5.toArray⟩, .string ⟨s6.toArray⟩, .string ⟨s7.toArray⟩, .string ⟨s8.toArray⟩, .string ⟨s9.toArray⟩] 28)) w2) w2 W3 := Kept.of_fr f3 fun b hb => ⟨hb.2, fun e => by have e : b = bc := e; have := hb.1; have := S1.out; omega⟩
  have hsb : ∀ b, New (W.alloc (.cells #[.slice AaC naC kaC, .slice AaG naG kaG, .slice AaU naU kaU, .slice AaA naA kaA, .string ⟨s0.toArray⟩, .string ⟨s1.toArray⟩, .string ⟨s2.toArray⟩, .string ⟨s3.toArray⟩, .string ⟨s4.toArray⟩, .string ⟨s5.toArray⟩, .string ⟨s6.toArray⟩, .string ⟨s7.toArray⟩, .string ⟨s8.toArray⟩, .string ⟨s9.toArray⟩] 28)) w2 b → Btw (bc + 1) hi b := fun b hb => ⟨by have := hb.1; have := S1.out; omega, by have := hb.2; omega⟩
  have hy3 := stable_q.go HY.out.1 (S' := Btw (bc + 1) hi) hkp hsb
  have Y3 := Lib.hid hy3
  have YA := Lib.hid ((RSq.stable stable_qacc).go HY.out.2.2 (S' := Btw (bc + 1) hi) hkp hsb)
  have YC := Lib.hid ((RSq.stable stable_qcon).go HY.out.2.1 (S' := Btw (bc + 1) hi) hkp hsb)
  have hS3 : ∀ k, Btw (bc + 1) hi k → k < W3.heap.size := fun k hk => Nat.lt_of_lt_of_le hk.2 hlt3.2
  have hst := fun W (hf : Fr No W3 W) => (show (∀ k, Btw (bc + 1) hi k → k < W.heap.size) ∧ QConf W (Btw (bc + 1) hi) (#[.slice AbC nbC kbC, .slice AbG nbG kbG, .slice AbU nbU kbU, .slice AbA nbA kbA, .string ⟨r0.toArray⟩, .string ⟨r1.toArray⟩, .string ⟨r2.toArray⟩, .string ⟨r3.toArray⟩, .string ⟨r4.toArray⟩, .string ⟨r5.toArray⟩, .string ⟨r6.toArray⟩, .string ⟨r7.toArray⟩, .string ⟨r8.toArray⟩, .string ⟨r9.toArray⟩] : Array Value).toList y from ⟨fun k hk => Nat.lt_of_lt_of_le (hS3 k hk) hf.size, stable_q.go hy3 (Kept.of_no hf hS3) (fun b hb => hb)⟩)
  have HS3 := Lib.hid hS3
  clear b3 f3 HY B2 F2 S1 hhi hs2 hs3 hkp hsb hy3 F1 B1 H0 hS3
  have hu := cut40_le x1
  have hn := cut40_le x2
  have HRL := Lib.hid (fun W (hf : Fr No W3 W) => rlevel_any #[.slice AbC nbC kbC, .slice AbG nbG kbG, .slice AbU nbU kbU, .slice AbA nbA kbA, .string ⟨r0.toArray⟩, .string ⟨r1.toArray⟩, .string ⟨r2.toArray⟩, .string ⟨r3.toArray⟩, .string ⟨r4.toArray⟩, .string ⟨r5.toArray⟩, .string ⟨r6.toArray⟩, .string ⟨r7.toArray⟩, .string ⟨r8.toArray⟩, .string ⟨r9.toArray⟩] y (cutS x1) (cutS x2) W (Btw (bc + 1) hi) (hst W hf).1 (hst W hf).2 hn hu)
  have HLV := Lib.hid (fun W (hf : Fr No W3 W) => level_any #[.slice AbC nbC kbC, .slice AbG nbG kbG, .slice AbU nbU kbU, .slice AbA nbA kbA, .string ⟨r0.toArray⟩, .string ⟨r1.toArray⟩, .string ⟨r2.toArray⟩, .string ⟨r3.toArray⟩, .string ⟨r4.toArray⟩, .string ⟨r5.toArray⟩, .string ⟨r6.toArray⟩, .string ⟨r7.toArray⟩, .string ⟨r8.toArray⟩, .string ⟨r9.toArray⟩] y (cutS x1) (cutS x2) W (Btw (bc + 1) hi) (hst W hf).1 (hst W hf).2 hn hu)
  have HMA := Lib.hid (fun W (hf : Fr No W3 W) => may_any #[.slice AbC nbC kbC, .slice AbG nbG kbG, .slice AbU nbU kbU, .slice AbA nbA kbA, .string ⟨r0.toArray⟩, .string ⟨r1.toArray⟩, .string ⟨r2.toArray⟩, .string ⟨r3.toArray⟩, .string ⟨r4.toArray⟩, .string ⟨r5.toArray⟩, .string ⟨r6.toArray⟩, .string ⟨r7.toArray⟩, .string ⟨r8.toArray⟩, .string ⟨r9.toArray⟩] y (cutS x1) (cutS x2) x4 W (Btw (bc + 1) hi) (hst W hf).1 (hst W hf).2 hn hu)
  have HSE := Lib.hid (fun W (hf : Fr No W3 W) => sees_any #[.slice AbC nbC kbC, .slice AbG nbG kbG, .slice AbU nbU kbU, .slice AbA nbA kbA, .string ⟨r0.toArray⟩, .string ⟨r1.toArray⟩, .string ⟨r2.toArray⟩, .string ⟨r3.toArray⟩, .string ⟨r4.toArray⟩, .string ⟨r5.toArray⟩, .string ⟨r6.toArray⟩, .string ⟨r7.toArray⟩, .string ⟨r8.toArray⟩, .string ⟨r9.toArray⟩] y (cutS x1) W (Btw (bc + 1) hi) (hst W hf).1 (hst W hf).2 hu)
  have HRS := Lib.hid (fun W (hf : Fr No W3 W) => rsees_any #[.slice AbC nbC kbC, .slice AbG nbG kbG, .slice AbU nbU kbU, .slice AbA nbA kbA, .string ⟨r0.toArray⟩, .string ⟨r1.toArray⟩, .string ⟨r2.toArray⟩, .string ⟨r3.toArray⟩, .string ⟨r4.toArray⟩, .string ⟨r5.toArray⟩, .string ⟨r6.toArray⟩, .string ⟨r7.toArray⟩, .string ⟨r8.toArray⟩, .string ⟨r9.toArray⟩] y (cutS x1) W (Btw (bc + 1) hi) (hst W hf).1 (hst W hf).2 hu)
  have HEN := Lib.hid (fun W (hf : Fr No W3 W) => enter_any #[.slice AbC nbC kbC, .slice AbG nbG kbG, .slice AbU nbU kbU, .slice AbA nbA kbA, .string ⟨r0.toArray⟩, .string ⟨r1.toArray⟩, .string ⟨r2.toArray⟩, .string ⟨r3.toArray⟩, .string ⟨r4.toArray⟩, .string ⟨r5.toArray⟩, .string ⟨r6.toArray⟩, .string ⟨r7.toArray⟩, .string ⟨r8.toArray⟩, .string ⟨r9.toArray⟩] y (cutS x1) x3 W (Btw (bc + 1) hi) (hst W hf).1 (q_r (hst W hf).2))
  have HRE := Lib.hid (fun W (hf : Fr No W3 W) => renter_any #[.slice AbC nbC kbC, .slice AbG nbG kbG, .slice AbU nbU kbU, .slice AbA nbA kbA, .string ⟨r0.toArray⟩, .string ⟨r1.toArray⟩, .string ⟨r2.toArray⟩, .string ⟨r3.toArray⟩, .string ⟨r4.toArray⟩, .string ⟨r5.toArray⟩, .string ⟨r6.toArray⟩, .string ⟨r7.toArray⟩, .string ⟨r8.toArray⟩, .string ⟨r9.toArray⟩] y (cutS x1) x3 W (Btw (bc + 1) hi) (hst W hf).1 (q_r (hst W hf).2))
  clear hst Y3 YA YC HS3
  generalize levelR y.2.2.2.1 (cutS x1) (cutS x2) = lv at HRL HLV HMA
  generalize seesR y (cutS x1) = L at HSE HRS
  generalize enterR y.2.2.1 (cutS x1) x3 = en at HEN HRE
  generalize cutS x1 = user at HRL HLV HMA HSE HRS HEN HRE hu ⊢
  generalize cutS x2 = console at HRL HLV HMA hn ⊢
  have y0 := B3.out.cell 0
  have y1 := B3.out.cell 1
  have y2 := B3.out.cell 2
  have y3 := B3.out.cell 3
  have y4 := B3.out.cell 4
  have y5 := B3.out.cell 5
  have y6 := B3.out.cell 6
  have y7 := B3.out.cell 7
  have y8 := B3.out.cell 8
  have y9 := B3.out.cell 9
  have y10 := B3.out.cell 10
  have y11 := B3.out.cell 11
  have y12 := B3.out.cell 12
  have y13 := B3.out.cell 13
  simp only [List.getElem?_toArray, List.getElem?_cons_zero, List.getElem?_cons_succ] at y0 y1 y2 y3 y4 y5 y6 y7 y8 y9 y10 y11 y12 y13
  go_wp2_with fail
  refine (HRL.out _ (Fr.refl _ _)).mono ?_
  rintro e w4 ⟨rfl, hf4⟩
  clear y0 y1 y2 y3 y4 y5 y6 y7 y8 y9 y10 y11 y12 y13
  have B4 := Lib.hid (B3.out.fr hf4 (fun h => h))
  have G4 := Lib.hid hf4
  have HLV := Lib.hid (fun W (hf : Fr No w4 W) => HLV.out W (G4.out.then_no hf))
  have HMA := Lib.hid (fun W (hf : Fr No w4 W) => HMA.out W (G4.out.then_no hf))
  have HSE := Lib.hid (fun W (hf : Fr No w4 W) => HSE.out W (G4.out.then_no hf))
  have HRS := Lib.hid (fun W (hf : Fr No w4 W) => HRS.out W (G4.out.then_no hf))
  have HEN := Lib.hid (fun W (hf : Fr No w4 W) => HEN.out W (G4.out.then_no hf))
  have HRE := Lib.hid (fun W (hf : Fr No w4 W) => HRE.out W (G4.out.then_no hf))
  have F4 := Lib.hid (F3.out.then_no hf4)
  clear hf4 B3 F3 HRL
  have hlb := B4.out.lt
  have y0 := B4.out.cell 0
  have y1 := B4.out.cell 1
  have y2 := B4.out.cell 2
  have y3 := B4.out.cell 3
  have y4 := B4.out.cell 4
  have y5 := B4.out.cell 5
  have y6 := B4.out.cell 6
  have y7 := B4.out.cell 7
  have y8 := B4.out.cell 8
  have y9 := B4.out.cell 9
  have y10 := B4.out.cell 10
  have y11 := B4.out.cell 11
  have y12 := B4.out.cell 12
  have y13 := B4.out.cell 13
  simp only [List.getElem?_toArray, List.getElem?_cons_zero, List.getElem?_cons_succ] at y0 y1 y2 y3 y4 y5 y6 y7 y8 y9 y10 y11 y12 y13
  have HK := Lib.hid (fun (X : World) (hf : Fr No w4 X) => (show X.cell? ⟨bc, 0, none⟩ = some (.slice AbC nbC kbC) ∧ X.cell? ⟨bc, 1, none⟩ = some (.slice AbG nbG kbG) ∧ X.cell? ⟨bc, 2, none⟩ = some (.slice AbU nbU kbU) ∧ X.cell? ⟨bc, 3, none⟩ = some (.slice AbA nbA kbA) ∧ X.cell? ⟨bc, 4, none⟩ = some (.string ⟨r0.toArray⟩) ∧ X.cell? ⟨bc, 5, none⟩ = some (.string ⟨r1.toArray⟩) ∧ X.cell? ⟨bc, 6, none⟩ = some (.string ⟨r2.toArray⟩) ∧ X.cell? ⟨bc, 7, none⟩ = some (.string ⟨r3.toArray⟩) ∧ X.cell? ⟨bc, 8, none⟩ = some (.string ⟨r4.toArray⟩) ∧ X.cell? ⟨bc, 9, none⟩ = some (.string ⟨r5.toArray⟩) ∧ X.cell? ⟨bc, 10, none⟩ = some (.string ⟨r6.toArray⟩) ∧ X.cell? ⟨bc, 11, none⟩ = some (.string ⟨r7.toArray⟩) ∧ X.cell? ⟨bc, 12, none⟩ = some (.string ⟨r8.toArray⟩) ∧ X.cell? ⟨bc, 13, none⟩ = some (.string ⟨r9.toArray⟩) from ⟨(hf.cell (p := ⟨bc, 0, none⟩) hlb (fun h => h)).trans y0, (hf.cell (p := ⟨bc, 1, none⟩) hlb (fun h => h)).trans y1, (hf.cell (p := ⟨bc, 2, none⟩) hlb (fun h => h)).trans y2, (hf.cell (p := ⟨bc, 3, none⟩) hlb (fun h => h)).trans y3, (hf.cell (p := ⟨bc, 4, none⟩) hlb (fun h => h)).trans y4, (hf.cell (p := ⟨bc, 5, none⟩) hlb (fun h => h)).trans y5, (hf.cell (p := ⟨bc, 6, none⟩) hlb (fun h => h)).trans y6, (hf.cell (p := ⟨bc, 7, none⟩) hlb (fun h => h)).trans y7, (hf.cell (p := ⟨bc, 8, none⟩) hlb (fun h => h)).trans y8, (hf.cell (p := ⟨bc, 9, none⟩) hlb (fun h => h)).trans y9, (hf.cell (p := ⟨bc, 10, none⟩) hlb (fun h => h)).trans y10, (hf.cell (p := ⟨bc, 11, none⟩) hlb (fun h => h)).trans y11, (hf.cell (p := ⟨bc, 12, none⟩) hlb (fun h => h)).trans y12, (hf.cell (p := ⟨bc, 13, none⟩) hlb (fun h => h)).trans y13⟩))
  have HZ := Lib.hid (show lv = lv from rfl)
  by_cases hnd : x4 ≤ lv
  · have hge : decide (x4 ≤ lv) = true := by simp [hnd]
    simp only [hge] at HMA
    go_wp2_with fail
    go_region_held3 (fun X => X.cell? ⟨bc, 0, none⟩ = some (.slice AbC nbC kbC) ∧ X.cell? ⟨bc, 1, none⟩ = some (.slice AbG nbG kbG) ∧ X.cell? ⟨bc, 2, none⟩ = some (.slice AbU nbU kbU) ∧ X.cell? ⟨bc, 3, none⟩ = some (.slice AbA nbA kbA) ∧ X.cell? ⟨bc, 4, none⟩ = some (.string ⟨r0.toArray⟩) ∧ X.cell? ⟨bc, 5, none⟩ = some (.string ⟨r1.toArray⟩) ∧ X.cell? ⟨bc, 6, none⟩ = some (.string ⟨r2.toArray⟩) ∧ X.cell? ⟨bc, 7, none⟩ = some (.string ⟨r3.toArray⟩) ∧ X.cell? ⟨bc, 8, none⟩ = some (.string ⟨r4.toArray⟩) ∧ X.cell? ⟨bc, 9, none⟩ = some (.string ⟨r5.toArray⟩) ∧ X.cell? ⟨bc, 10, none⟩ = some (.string ⟨r6.toArray⟩) ∧ X.cell? ⟨bc, 11, none⟩ = some (.string ⟨r7.toArray⟩) ∧ X.cell? ⟨bc, 12, none⟩ = some (.string ⟨r8.toArray⟩) ∧ X.cell? ⟨bc, 13, none⟩ = some (.string ⟨r9.toArray⟩)) ((refine HK.out _ ?_; repeat' (first | with_reducible assumption | with_reducible exact Fr.refl _ _ | with_reducible refine Fr.drew ?_))) (first | (go_at_call 9; refine (HLV.out _ (by repeat' (first | with_reducible assumption | with_reducible exact Fr.refl _ _ | with_reducible refine Fr.drew ?_))).mono ?_; rintro e w5 ⟨rfl, hf⟩; have hf5 : Fr No w4 w5 := (Fr.then_no (by repeat' (first | with_reducible assumption | with_reducible exact Fr.refl _ _ | with_reducible refine Fr.drew ?_)) hf); clear hf) | (go_at_call 10; refine (HMA.out _ (by repeat' (first | with_reducible assumption | with_reducible exact Fr.refl _ _ | with_reducible refine Fr.drew ?_))).mono ?_; rintro e w6 ⟨rfl, hf⟩; have hf6 : Fr No w4 w6 := (Fr.then_no (by repeat' (first | with_reducible assumption | with_reducible exact Fr.refl _ _ | with_reducible refine Fr.drew ?_)) hf); clear hf) | (go_at_call 12; refine (HSE.out _ (by repeat' (first | with_reducible assumption | with_reducible exact Fr.refl _ _ | with_reducible refine Fr.drew ?_))).mono ?_; rintro e w7 ⟨u7, rfl, ho, hs⟩; have hf := hs.1; have hf7 : Fr No w4 w7 := (Fr.then_no (by repeat' (first | with_reducible assumption | with_reducible exact Fr.refl _ _ | with_reducible refine Fr.drew ?_)) hf); have O7 := Lib.hid ho; clear ho hs; clear hf) | (go_at_call 13; refine (HRS.out _ (by repeat' (first | with_reducible assumption | with_reducible exact Fr.refl _ _ | with_reducible refine Fr.drew ?_))).mono ?_; rintro e w8 ⟨u8, rfl, ho, hs⟩; have hf := hs.1; have hf8 : Fr No w4 w8 := (Fr.then_no (by repeat' (first | with_reducible assumption | with_reducible exact Fr.refl _ _ | with_reducible refine Fr.drew ?_)) hf); have O8 := Lib.hid ho; have P7 := Lib.hid (own_fr2 hf O7.out); clear ho hs; clear hf) | (go_at_call 11; refine (same_yes _ _ L _ P7.out O8.out).mono ?_; rintro e w9 ⟨rfl, hf⟩; have hf9 : Fr No w4 w9 := (Fr.then_no (by repeat' (first | with_reducible assumption | with_reducible exact Fr.refl _ _ | with_reducible refine Fr.drew ?_)) hf); clear hf) | (go_at_call 14; refine (HEN.out _ (by repeat' (first | with_reducible assumption | with_reducible exact Fr.refl _ _ | with_reducible refine Fr.drew ?_))).mono ?_; rintro e w10 ⟨rfl, hf⟩; have hf10 : Fr No w4 w10 := (Fr.then_no (by repeat' (first | with_reducible assumption | with_reducible exact Fr.refl _ _ | with_reducible refine Fr.drew ?_)) hf); clear hf) | (go_at_call 15; refine (HRE.out _ (by repeat' (first | with_reducible assumption | with_reducible exact Fr.refl _ _ | with_reducible refine Fr.drew ?_))).mono ?_; rintro e w11 ⟨rfl, hf⟩; have hf11 : Fr No w4 w11 := (Fr.then_no (by repeat' (first | with_reducible assumption | with_reducible exact Fr.refl _ _ | with_reducible refine Fr.drew ?_)) hf); clear hf) | (go_at_call 16; refine (works_any _).mono ?_; rintro e w12 ⟨rfl, hf⟩; have hf12 : Fr No w4 w12 := (Fr.then_no (by repeat' (first | with_reducible assumption | with_reducible exact Fr.refl _ _ | with_reducible refine Fr.drew ?_)) hf); clear hf))
    all_goals
      go_wp2_with fail
      go_ret
      exact ⟨rfl, F4.out.then_no (by assumption)⟩
  · have hge : decide (x4 ≤ lv) = false := by simp; omega
    simp only [hge] at HMA
    go_wp2_with fail
    go_region_held3 (fun X => X.cell? ⟨bc, 0, none⟩ = some (.slice AbC nbC kbC) ∧ X.cell? ⟨bc, 1, none⟩ = some (.slice AbG nbG kbG) ∧ X.cell? ⟨bc, 2, none⟩ = some (.slice AbU nbU kbU) ∧ X.cell? ⟨bc, 3, none⟩ = some (.slice AbA nbA kbA) ∧ X.cell? ⟨bc, 4, none⟩ = some (.string ⟨r0.toArray⟩) ∧ X.cell? ⟨bc, 5, none⟩ = some (.string ⟨r1.toArray⟩) ∧ X.cell? ⟨bc, 6, none⟩ = some (.string ⟨r2.toArray⟩) ∧ X.cell? ⟨bc, 7, none⟩ = some (.string ⟨r3.toArray⟩) ∧ X.cell? ⟨bc, 8, none⟩ = some (.string ⟨r4.toArray⟩) ∧ X.cell? ⟨bc, 9, none⟩ = some (.string ⟨r5.toArray⟩) ∧ X.cell? ⟨bc, 10, none⟩ = some (.string ⟨r6.toArray⟩) ∧ X.cell? ⟨bc, 11, none⟩ = some (.string ⟨r7.toArray⟩) ∧ X.cell? ⟨bc, 12, none⟩ = some (.string ⟨r8.toArray⟩) ∧ X.cell? ⟨bc, 13, none⟩ = some (.string ⟨r9.toArray⟩)) ((refine HK.out _ ?_; repeat' (first | with_reducible assumption | with_reducible exact Fr.refl _ _ | with_reducible refine Fr.drew ?_))) (first | (go_at_call 9; refine (HLV.out _ (by repeat' (first | with_reducible assumption | with_reducible exact Fr.refl _ _ | with_reducible refine Fr.drew ?_))).mono ?_; rintro e w5 ⟨rfl, hf⟩; have hf5 : Fr No w4 w5 := (Fr.then_no (by repeat' (first | with_reducible assumption | with_reducible exact Fr.refl _ _ | with_reducible refine Fr.drew ?_)) hf); clear hf) | (go_at_call 10; refine (HMA.out _ (by repeat' (first | with_reducible assumption | with_reducible exact Fr.refl _ _ | with_reducible refine Fr.drew ?_))).mono ?_; rintro e w6 ⟨rfl, hf⟩; have hf6 : Fr No w4 w6 := (Fr.then_no (by repeat' (first | with_reducible assumption | with_reducible exact Fr.refl _ _ | with_reducible refine Fr.drew ?_)) hf); clear hf) | (go_at_call 12; refine (HSE.out _ (by repeat' (first | with_reducible assumption | with_reducible exact Fr.refl _ _ | with_reducible refine Fr.drew ?_))).mono ?_; rintro e w7 ⟨u7, rfl, ho, hs⟩; have hf := hs.1; have hf7 : Fr No w4 w7 := (Fr.then_no (by repeat' (first | with_reducible assumption | with_reducible exact Fr.refl _ _ | with_reducible refine Fr.drew ?_)) hf); have O7 := Lib.hid ho; clear ho hs; clear hf) | (go_at_call 13; refine (HRS.out _ (by repeat' (first | with_reducible assumption | with_reducible exact Fr.refl _ _ | with_reducible refine Fr.drew ?_))).mono ?_; rintro e w8 ⟨u8, rfl, ho, hs⟩; have hf := hs.1; have hf8 : Fr No w4 w8 := (Fr.then_no (by repeat' (first | with_reducible assumption | with_reducible exact Fr.refl _ _ | with_reducible refine Fr.drew ?_)) hf); have O8 := Lib.hid ho; have P7 := Lib.hid (own_fr2 hf O7.out); clear ho hs; clear hf) | (go_at_call 11; refine (same_yes _ _ L _ P7.out O8.out).mono ?_; rintro e w9 ⟨rfl, hf⟩; have hf9 : Fr No w4 w9 := (Fr.then_no (by repeat' (first | with_reducible assumption | with_reducible exact Fr.refl _ _ | with_reducible refine Fr.drew ?_)) hf); clear hf) | (go_at_call 14; refine (HEN.out _ (by repeat' (first | with_reducible assumption | with_reducible exact Fr.refl _ _ | with_reducible refine Fr.drew ?_))).mono ?_; rintro e w10 ⟨rfl, hf⟩; have hf10 : Fr No w4 w10 := (Fr.then_no (by repeat' (first | with_reducible assumption | with_reducible exact Fr.refl _ _ | with_reducible refine Fr.drew ?_)) hf); clear hf) | (go_at_call 15; refine (HRE.out _ (by repeat' (first | with_reducible assumption | with_reducible exact Fr.refl _ _ | with_reducible refine Fr.drew ?_))).mono ?_; rintro e w11 ⟨rfl, hf⟩; have hf11 : Fr No w4 w11 := (Fr.then_no (by repeat' (first | with_reducible assumption | with_reducible exact Fr.refl _ _ | with_reducible refine Fr.drew ?_)) hf); clear hf) | (go_at_call 16; refine (works_any _).mono ?_; rintro e w12 ⟨rfl, hf⟩; have hf12 : Fr No w4 w12 := (Fr.then_no (by repeat' (first | with_reducible assumption | with_reducible exact Fr.refl _ _ | with_reducible refine Fr.drew ?_)) hf); clear hf))
    all_goals
      go_wp2_with fail
      go_ret
      exact ⟨rfl, F4.out.then_no (by assumption)⟩
end Conf
end Go.Proofs.Ytompphakagoaeaa
