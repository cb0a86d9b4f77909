/- The reference of package gate: Login and Late. Printed by gen_gater.py. -/
import Derived.Test.YtllnaflknnkgiaaGateL
namespace Go.Proofs.Ytllnaflknnkgiaa
open Go.RowKit
set_option linter.unusedVariables false
set_option linter.unusedSimpArgs false
namespace Gate
open Conf
def RLogIs (w : World) (t un : Int) (r : (Int × Str × Int) × (Int × ByteArray)) (e : Ending) (w' : World) : Prop :=
  ∃ b, e = .returned (.tuple #[rg t r.1.1 r.1.2.1 r.1.2.2 un, .agg #[.int .i64 r.2.1, .slice (some ⟨b, 0, none⟩) 1 1]]) ∧ w'.cell? ⟨b, 0, none⟩ = some (.string r.2.2) ∧ New w w' b ∧ Fr No w w'
set_option maxRecDepth 100000 in
set_option maxHeartbeats 4000000 in
theorem rlogin_any (c0 : Array Value) (x : C) (user pass : Str) (w : World) (S : Nat → Prop) (hS : ∀ k, S k → k < w.heap.size) (h : RConf w S c0.toList x) (t st : Int) (u : Str) (f un : Int)
    (hf : 0 ≤ f ∧ f ≤ 1000) (hu : u.length ≤ 1000) (hus : user.length ≤ 1000) :
    Calls Try.prog 19 #[rg t st u f un, .agg c0, .string ⟨user.toArray⟩, .string ⟨pass.toArray⟩] w (RLogIs w t un (loginR t st u f (decide (enterR x.2.2.1 user pass = 0)) user)) := by
  obtain ⟨AC, AG, AU, AA, nC, kC, nG, kG, nU, kU, nA, kA, s0, s1, s2, s3, s4, s5, s6, s7, s8, s9, hc0⟩ := conf_cells h
  rw [hc0] at h ⊢
  clear hc0
  have hW2 : Fr No w ((((w.alloc (.cells #[.int .i64 t, .int .i64 st, .string ⟨u.toArray⟩, .int .i64 f, .int .i64 un] 37)).alloc (.cells #[.slice AC nC kC, .slice AG nG kG, .slice AU nU kU, .slice AA nA kA, .string ⟨s0.toArray⟩, .string ⟨s1.toArray⟩, .string ⟨s2.toArray⟩, .string ⟨s3.toArray⟩, .string ⟨s4.toArray⟩, .string ⟨s5.toArray⟩, .string ⟨s6.toArray⟩, .string ⟨s7.toArray⟩, .string ⟨s8.toArray⟩, .string ⟨s9.toArray⟩] 28)).alloc (.cells #[.int .i64 0, .int .i64 0, .string ⟨#[]⟩, .int .i64 0, .int .i64 0] 37)).alloc (.cells #[.int .i64 0, nil] 47)) := (((((Fr.refl No w).alloc _).alloc _).alloc _).alloc _)
  have hg := (((Blk.new w 37 #[.int .i64 t, .int .i64 st, .string ⟨u.toArray⟩, .int .i64 f, .int .i64 un]).alloc (.cells #[.slice AC nC kC, .slice AG nG kG, .slice AU nU kU, .slice AA nA kA, .string ⟨s0.toArray⟩, .string ⟨s1.toArray⟩, .string ⟨s2.toArray⟩, .string ⟨s3.toArray⟩, .string ⟨s4.toArray⟩, .string ⟨s5.toArray⟩, .string ⟨s6.toArray⟩, .string ⟨s7.toArray⟩, .string ⟨s8.toArray⟩, .string ⟨s9.toArray⟩] 28)).alloc (.cells #[.int .i64 0, .int .i64 0, .string ⟨#[]⟩, .int .i64 0, .int .i64 0] 37)).alloc (.cells #[.int .i64 0, nil] 47)
  have hb := ((Blk.new (w.alloc (.cells #[.int .i64 t, .int .i64 st, .string ⟨u.toArray⟩, .int .i64 f, .int .i64 un] 37)) 28 #[.slice AC nC kC, .slice AG nG kG, .slice AU nU kU, .slice AA nA kA, .string ⟨s0.toArray⟩, .string ⟨s1.toArray⟩, .string ⟨s2.toArray⟩, .string ⟨s3.toArray⟩, .string ⟨s4.toArray⟩, .string ⟨s5.toArray⟩, .string ⟨s6.toArray⟩, .string ⟨s7.toArray⟩, .string ⟨s8.toArray⟩, .string ⟨s9.toArray⟩]).alloc (.cells #[.int .i64 0, .int .i64 0, .string ⟨#[]⟩, .int .i64 0, .int .i64 0] 37)).alloc (.cells #[.int .i64 0, nil] 47)
  have hr1 := (Blk.new ((w.alloc (.cells #[.int .i64 t, .int .i64 st, .string ⟨u.toArray⟩, .int .i64 f, .int .i64 un] 37)).alloc (.cells #[.slice AC nC kC, .slice AG nG kG, .slice AU nU kU, .slice AA nA kA, .string ⟨s0.toArray⟩, .string ⟨s1.toArray⟩, .string ⟨s2.toArray⟩, .string ⟨s3.toArray⟩, .string ⟨s4.toArray⟩, .string ⟨s5.toArray⟩, .string ⟨s6.toArray⟩, .string ⟨s7.toArray⟩, .string ⟨s8.toArray⟩, .string ⟨s9.toArray⟩] 28)) 37 #[.int .i64 0, .int .i64 0, .string ⟨#[]⟩, .int .i64 0, .int .i64 0]).alloc (.cells #[.int .i64 0, nil] 47)
  have hr2 := Blk.new (((w.alloc (.cells #[.int .i64 t, .int .i64 st, .string ⟨u.toArray⟩, .int .i64 f, .int .i64 un] 37)).alloc (.cells #[.slice AC nC kC, .slice AG nG kG, .slice AU nU kU, .slice AA nA kA, .string ⟨s0.toArray⟩, .string ⟨s1.toArray⟩, .string ⟨s2.toArray⟩, .string ⟨s3.toArray⟩, .string ⟨s4.toArray⟩, .string ⟨s5.toArray⟩, .string ⟨s6.toArray⟩, .string ⟨s7.toArray⟩, .string ⟨s8.toArray⟩, .string ⟨s9.toArray⟩] 28)).alloc (.cells #[.int .i64 0, .int .i64 0, .string ⟨#[]⟩, .int .i64 0, .int .i64 0] 37)) 47 #[.int .i64 0, nil]
  have hsz : ((((w.alloc (.cells #[.int .i64 t, .int .i64 st, .string ⟨u.toArray⟩, .int .i64 f, .int .i64 un] 37)).alloc (.cells #[.slice AC nC kC, .slice AG nG kG, .slice AU nU kU, .slice AA nA kA, .string ⟨s0.toArray⟩, .string ⟨s1.toArray⟩, .string ⟨s2.toArray⟩, .string ⟨s3.toArray⟩, .string ⟨s4.toArray⟩, .string ⟨s5.toArray⟩, .string ⟨s6.toArray⟩, .string ⟨s7.toArray⟩, .string ⟨s8.toArray⟩, .string ⟨s9.toArray⟩] 28)).alloc (.cells #[.int .i64 0, .int .i64 0, .string ⟨#[]⟩, .int .i64 0, .int .i64 0] 37)).alloc (.cells #[.int .i64 0, nil] 47)).heap.size = w.heap.size + 1 + 1 + 1 + 1 := by rw [size_alloc, size_alloc, size_alloc, size_alloc]
  simp only [size_alloc] at hb hr1 hr2
  have hen := renter_any #[.slice AC nC kC, .slice AG nG kG, .slice AU nU kU, .slice AA nA kA, .string ⟨s0.toArray⟩, .string ⟨s1.toArray⟩, .string ⟨s2.toArray⟩, .string ⟨s3.toArray⟩, .string ⟨s4.toArray⟩, .string ⟨s5.toArray⟩, .string ⟨s6.toArray⟩, .string ⟨s7.toArray⟩, .string ⟨s8.toArray⟩, .string ⟨s9.toArray⟩] x user pass _ S (fun k hk => Nat.lt_of_lt_of_le (hS k hk) hW2.size) (Conf.stable.go h (Kept.of_no hW2 hS) fun b hb => hb)
  obtain ⟨er, hEr⟩ : ∃ er, er = enterR x.2.2.1 user pass := ⟨_, rfl⟩
  rw [← hEr] at hen ⊢
  clear hEr
  go_enter Try.func19, Try.ntmps19
  have Hsz0 := Lib.hid hsz
  have Hg := Lib.hid hg
  have Hb := Lib.hid hb
  have Hr1 := Lib.hid hr1
  have Hr2 := Lib.hid hr2
  have F2 := Lib.hid hW2
  have Hen := Lib.hid hen
  clear hsz hg hb hr1 hr2 hW2 hen h hS
  by_cases hs1 : st = 1
  · have hr := Lib.hid (show loginR t st u f (decide (er = 0)) user = ((st, u, f), (503, youAre u)) by unfold loginR; rw [if_pos hs1])
    have hst1 : (st == 1) = true := by simpa using hs1
    clear hs1
    go_wp2_with fail
    generalize ((((w.alloc (.cells #[.int .i64 t, .int .i64 st, .string ⟨u.toArray⟩, .int .i64 f, .int .i64 un] 37)).alloc (.cells #[.slice AC nC kC, .slice AG nG kG, .slice AU nU kU, .slice AA nA kA, .string ⟨s0.toArray⟩, .string ⟨s1.toArray⟩, .string ⟨s2.toArray⟩, .string ⟨s3.toArray⟩, .string ⟨s4.toArray⟩, .string ⟨s5.toArray⟩, .string ⟨s6.toArray⟩, .string ⟨s7.toArray⟩, .string ⟨s8.toArray⟩, .string ⟨s9.toArray⟩] 28)).alloc (.cells #[.int .i64 0, .int .i64 0, .string ⟨#[]⟩, .int .i64 0, .int .i64 0] 37)).alloc (.cells #[.int .i64 0, nil] 47)) = W at Hsz0 Hg Hb Hr1 Hr2 F2 Hen ⊢
    obtain ⟨bg, hbg⟩ : ∃ bg, w.heap.size = bg := ⟨_, rfl⟩
    rw [hbg] at Hsz0 Hg Hb Hr1 Hr2 ⊢
    obtain ⟨bc, hbc⟩ : ∃ bc, bg + 1 = bc := ⟨_, rfl⟩
    rw [hbc] at Hsz0 Hb Hr1 Hr2 ⊢
    obtain ⟨b1, hb1⟩ : ∃ b1, bc + 1 = b1 := ⟨_, rfl⟩
    rw [hb1] at Hsz0 Hr1 Hr2 ⊢
    obtain ⟨b2, hb2⟩ : ∃ b2, b1 + 1 = b2 := ⟨_, rfl⟩
    rw [hb2] at Hsz0 Hr2 ⊢
    have Hw := Lib.hid hbg
    clear hbg
    have n1 : bg ≠ b1 := by omega
    have n2 : b1 ≠ bg := by omega
    have n3 : bg ≠ b2 := by omega
    have n4 : b2 ≠ bg := by omega
    have n5 : b1 ≠ b2 := by omega
    have n6 : b2 ≠ b1 := by omega
    have FW := F2
    have hwz := Hsz0.out
    have m0 := Hg.out.cell 0
    have m1 := Hg.out.cell 1
    have m2 := Hg.out.cell 2
    have m3 := Hg.out.cell 3
    have m4 := Hg.out.cell 4
    simp only [List.getElem?_toArray, List.getElem?_cons_zero, List.getElem?_cons_succ] at m0 m1 m2 m3 m4
    have hlg : bg < W.heap.size := by omega
    have hcu : ¬ 9223372036854775807 < 8 + u.length := by omega
    have hcs : ¬ 9223372036854775807 < 8 + user.length := by omega
    have hcu2 : 8 + u.length ≤ 9223372036854775807 := by omega
    have hcs2 : 8 + user.length ≤ 9223372036854775807 := by omega
    go_region_held3 (fun w' => w'.cell? ⟨bg, 0, none⟩ = some (.int .i64 t) ∧ w'.cell? ⟨bg, 1, none⟩ = some (.int .i64 st) ∧ w'.cell? ⟨bg, 2, none⟩ = some (.string ⟨u.toArray⟩) ∧ w'.cell? ⟨bg, 3, none⟩ = some (.int .i64 f) ∧ w'.cell? ⟨bg, 4, none⟩ = some (.int .i64 un)) (go_keep) ((go_at_call 56; refine (rone_any _ _ _).mono ?_; rintro e w3 ⟨b, rfl, h1, h2, h3⟩; have h3 := (by first | exact (Fr.refl No W).then_no h3 | exact (Fr.refl No W).drew.then_no h3 : Fr No W w3); have h2 := (show New W w3 b from ⟨h2.1, h2.2⟩); have ra0 := (h3.cell (p := ⟨bg, 0, none⟩) hlg (fun h => h)).trans m0; have ra1 := (h3.cell (p := ⟨bg, 1, none⟩) hlg (fun h => h)).trans m1; have ra2 := (h3.cell (p := ⟨bg, 2, none⟩) hlg (fun h => h)).trans m2; have ra3 := (h3.cell (p := ⟨bg, 3, none⟩) hlg (fun h => h)).trans m3; have ra4 := (h3.cell (p := ⟨bg, 4, none⟩) hlg (fun h => h)).trans m4; have R1 := Hr1.out.fr h3 (fun h => h); have R2 := Hr2.out.fr h3 (fun h => h); have x0 := R1.cell 0; have y0 := R1.frozen 0; have x1 := R1.cell 1; have y1 := R1.frozen 1; have x2 := R1.cell 2; have y2 := R1.frozen 2; have x3 := R1.cell 3; have y3 := R1.frozen 3; have x4 := R1.cell 4; have y4 := R1.frozen 4;have v0 := R2.cell 0; have z0 := R2.frozen 0; have v1 := R2.cell 1; have z1 := R2.frozen 1; simp only [List.getElem?_toArray, List.getElem?_cons_zero, List.getElem?_cons_succ] at x0 x1 x2 x3 x4 v0 v1; have HR1 := Lib.hid R1; have HR2 := Lib.hid R2; have H1 := Lib.hid h1; have H2 := Lib.hid h2; have H3 := Lib.hid h3; clear R1 R2 h1 h2 h3))
    all_goals
      go_wp2_with fail
      have p1 := (((((((HR1.out.put 0 (.int .i64 t)).put 1 (.int .i64 st)).put 2 (.string ⟨u.toArray⟩)).put 3 (.int .i64 f)).put 4 (.int .i64 un)).far (p := ⟨b2, 0, none⟩) n5 (.int .i64 503)).far (p := ⟨b2, 1, none⟩) n5 (.slice (some ⟨b, 0, none⟩) 1 1))
      have p2 := (((((((HR2.out.far (p := ⟨b1, 0, none⟩) n6 (.int .i64 t)).far (p := ⟨b1, 1, none⟩) n6 (.int .i64 st)).far (p := ⟨b1, 2, none⟩) n6 (.string ⟨u.toArray⟩)).far (p := ⟨b1, 3, none⟩) n6 (.int .i64 f)).far (p := ⟨b1, 4, none⟩) n6 (.int .i64 un)).put 0 (.int .i64 503)).put 1 (.slice (some ⟨b, 0, none⟩) 1 1))
      simp at p1 p2
      have hfr := ((((((((Fr.refl (fun k => k = b1 ∨ k = b2) w3).setCell (p := ⟨b1, 0, none⟩) (.inl (.inl rfl)) (.int .i64 t)).setCell (p := ⟨b1, 1, none⟩) (.inl (.inl rfl)) (.int .i64 st)).setCell (p := ⟨b1, 2, none⟩) (.inl (.inl rfl)) (.string ⟨u.toArray⟩)).setCell (p := ⟨b1, 3, none⟩) (.inl (.inl rfl)) (.int .i64 f)).setCell (p := ⟨b1, 4, none⟩) (.inl (.inl rfl)) (.int .i64 un)).setCell (p := ⟨b2, 0, none⟩) (.inl (.inr rfl)) (.int .i64 503)).setCell (p := ⟨b2, 1, none⟩) (.inl (.inr rfl)) (.slice (some ⟨b, 0, none⟩) 1 1))
      generalize (((((((w3.setCell ⟨b1, 0, none⟩ (.int .i64 t)).setCell ⟨b1, 1, none⟩ (.int .i64 st)).setCell ⟨b1, 2, none⟩ (.string ⟨u.toArray⟩)).setCell ⟨b1, 3, none⟩ (.int .i64 f)).setCell ⟨b1, 4, none⟩ (.int .i64 un)).setCell ⟨b2, 0, none⟩ (.int .i64 503)).setCell ⟨b2, 1, none⟩ (.slice (some ⟨b, 0, none⟩) 1 1)) = W9 at p1 p2 hfr ⊢
      clear x0 x1 x2 x3 x4 y0 y1 y2 y3 y4 v0 v1 z0 z1 ra0 ra1 ra2 ra3 ra4 m0 m1 m2 m3 m4
      have x0 := p1.cell 0
      have x1 := p1.cell 1
      have x2 := p1.cell 2
      have x3 := p1.cell 3
      have x4 := p1.cell 4
      have y0 := p2.cell 0
      have y1 := p2.cell 1
      simp only [List.getElem?_toArray, List.getElem?_cons_zero, List.getElem?_cons_succ] at x0 x1 x2 x3 x4 y0 y1
      refine bodyPost_ret (v := .tuple #[.agg #[.int .i64 t, .int .i64 st, .string ⟨u.toArray⟩, .int .i64 f, .int .i64 un], .agg #[.int .i64 503, .slice (some ⟨b, 0, none⟩) 1 1]]) ?_ rfl ?_
      · simp [results, Try.f19, go_sem, x0, x1, x2, x3, x4, y0, y1]
      · rw [hr.out]
        have l1 := H2.out.1
        have l2 := H2.out.2
        have l3 := hfr.size
        have l4 := FW.out.size
        have l5 := Hw.out
        have hbb : ¬ (b = b1 ∨ b = b2) := by omega
        refine ⟨b, rfl, (hfr.cell (p := ⟨b, 0, none⟩) l2 hbb).trans H1.out, ⟨by omega, by omega⟩, (FW.out.then_no H3.out).trans hfr fun k hk hl => ?_⟩
        rcases hk with hk | hk <;> omega
  by_cases hs2 : st = 2
  · have hr := Lib.hid (show loginR t st u f (decide (er = 0)) user = ((st, u, f), (421, shutT)) by unfold loginR; rw [if_neg hs1, if_pos hs2])
    have hst1 : (st == 1) = false := by simpa using hs1
    have hst2 : (st == 2) = true := by simpa using hs2
    clear hs1 hs2
    go_wp2_with fail
    generalize ((((w.alloc (.cells #[.int .i64 t, .int .i64 st, .string ⟨u.toArray⟩, .int .i64 f, .int .i64 un] 37)).alloc (.cells #[.slice AC nC kC, .slice AG nG kG, .slice AU nU kU, .slice AA nA kA, .string ⟨s0.toArray⟩, .string ⟨s1.toArray⟩, .string ⟨s2.toArray⟩, .string ⟨s3.toArray⟩, .string ⟨s4.toArray⟩, .string ⟨s5.toArray⟩, .string ⟨s6.toArray⟩, .string ⟨s7.toArray⟩, .string ⟨s8.toArray⟩, .string ⟨s9.toArray⟩] 28)).alloc (.cells #[.int .i64 0, .int .i64 0, .string ⟨#[]⟩, .int .i64 0, .int .i64 0] 37)).alloc (.cells #[.int .i64 0, nil] 47)) = W at Hsz0 Hg Hb Hr1 Hr2 F2 Hen ⊢
    obtain ⟨bg, hbg⟩ : ∃ bg, w.heap.size = bg := ⟨_, rfl⟩
    rw [hbg] at Hsz0 Hg Hb Hr1 Hr2 ⊢
    obtain ⟨bc, hbc⟩ : ∃ bc, bg + 1 = bc := ⟨_, rfl⟩
    rw [hbc] at Hsz0 Hb Hr1 Hr2 ⊢
    obtain ⟨b1, hb1⟩ : ∃ b1, bc + 1 = b1 := ⟨_, rfl⟩
    rw [hb1] at Hsz0 Hr1 Hr2 ⊢
    obtain ⟨b2, hb2⟩ : ∃ b2, b1 + 1 = b2 := ⟨_, rfl⟩
    rw [hb2] at Hsz0 Hr2 ⊢
    have Hw := Lib.hid hbg
    clear hbg
    have n1 : bg ≠ b1 := by omega
    have n2 : b1 ≠ bg := by omega
    have n3 : bg ≠ b2 := by omega
    have n4 : b2 ≠ bg := by omega
    have n5 : b1 ≠ b2 := by omega
    have n6 : b2 ≠ b1 := by omega
    have FW := F2
    have hwz := Hsz0.out
    have m0 := Hg.out.cell 0
    have m1 := Hg.out.cell 1
    have m2 := Hg.out.cell 2
    have m3 := Hg.out.cell 3
    have m4 := Hg.out.cell 4
    simp only [List.getElem?_toArray, List.getElem?_cons_zero, List.getElem?_cons_succ] at m0 m1 m2 m3 m4
    have hlg : bg < W.heap.size := by omega
    have hcu : ¬ 9223372036854775807 < 8 + u.length := by omega
    have hcs : ¬ 9223372036854775807 < 8 + user.length := by omega
    have hcu2 : 8 + u.length ≤ 9223372036854775807 := by omega
    have hcs2 : 8 + user.length ≤ 9223372036854775807 := by omega
    go_region_held3 (fun w' => w'.cell? ⟨bg, 0, none⟩ = some (.int .i64 t) ∧ w'.cell? ⟨bg, 1, none⟩ = some (.int .i64 st) ∧ w'.cell? ⟨bg, 2, none⟩ = some (.string ⟨u.toArray⟩) ∧ w'.cell? ⟨bg, 3, none⟩ = some (.int .i64 f) ∧ w'.cell? ⟨bg, 4, none⟩ = some (.int .i64 un)) (go_keep) ((go_at_call 56; refine (rone_any _ _ _).mono ?_; rintro e w3 ⟨b, rfl, h1, h2, h3⟩; have h3 := (by first | exact (Fr.refl No W).then_no h3 | exact (Fr.refl No W).drew.then_no h3 : Fr No W w3); have h2 := (show New W w3 b from ⟨h2.1, h2.2⟩); have ra0 := (h3.cell (p := ⟨bg, 0, none⟩) hlg (fun h => h)).trans m0; have ra1 := (h3.cell (p := ⟨bg, 1, none⟩) hlg (fun h => h)).trans m1; have ra2 := (h3.cell (p := ⟨bg, 2, none⟩) hlg (fun h => h)).trans m2; have ra3 := (h3.cell (p := ⟨bg, 3, none⟩) hlg (fun h => h)).trans m3; have ra4 := (h3.cell (p := ⟨bg, 4, none⟩) hlg (fun h => h)).trans m4; have R1 := Hr1.out.fr h3 (fun h => h); have R2 := Hr2.out.fr h3 (fun h => h); have x0 := R1.cell 0; have y0 := R1.frozen 0; have x1 := R1.cell 1; have y1 := R1.frozen 1; have x2 := R1.cell 2; have y2 := R1.frozen 2; have x3 := R1.cell 3; have y3 := R1.frozen 3; have x4 := R1.cell 4; have y4 := R1.frozen 4;have v0 := R2.cell 0; have z0 := R2.frozen 0; have v1 := R2.cell 1; have z1 := R2.frozen 1; simp only [List.getElem?_toArray, List.getElem?_cons_zero, List.getElem?_cons_succ] at x0 x1 x2 x3 x4 v0 v1; have HR1 := Lib.hid R1; have HR2 := Lib.hid R2; have H1 := Lib.hid h1; have H2 := Lib.hid h2; have H3 := Lib.hid h3; clear R1 R2 h1 h2 h3))
    all_goals
      go_wp2_with fail
      have p1 := (((((((HR1.out.put 0 (.int .i64 t)).put 1 (.int .i64 st)).put 2 (.string ⟨u.toArray⟩)).put 3 (.int .i64 f)).put 4 (.int .i64 un)).far (p := ⟨b2, 0, none⟩) n5 (.int .i64 421)).far (p := ⟨b2, 1, none⟩) n5 (.slice (some ⟨b, 0, none⟩) 1 1))
      have p2 := (((((((HR2.out.far (p := ⟨b1, 0, none⟩) n6 (.int .i64 t)).far (p := ⟨b1, 1, none⟩) n6 (.int .i64 st)).far (p := ⟨b1, 2, none⟩) n6 (.string ⟨u.toArray⟩)).far (p := ⟨b1, 3, none⟩) n6 (.int .i64 f)).far (p := ⟨b1, 4, none⟩) n6 (.int .i64 un)).put 0 (.int .i64 421)).put 1 (.slice (some ⟨b, 0, none⟩) 1 1))
      simp at p1 p2
      have hfr := ((((((((Fr.refl (fun k => k = b1 ∨ k = b2) w3).setCell (p := ⟨b1, 0, none⟩) (.inl (.inl rfl)) (.int .i64 t)).setCell (p := ⟨b1, 1, none⟩) (.inl (.inl rfl)) (.int .i64 st)).setCell (p := ⟨b1, 2, none⟩) (.inl (.inl rfl)) (.string ⟨u.toArray⟩)).setCell (p := ⟨b1, 3, none⟩) (.inl (.inl rfl)) (.int .i64 f)).setCell (p := ⟨b1, 4, none⟩) (.inl (.inl rfl)) (.int .i64 un)).setCell (p := ⟨b2, 0, none⟩) (.inl (.inr rfl)) (.int .i64 421)).setCell (p := ⟨b2, 1, none⟩) (.inl (.inr rfl)) (.slice (some ⟨b, 0, none⟩) 1 1))
      generalize (((((((w3.setCell ⟨b1, 0, none⟩ (.int .i64 t)).setCell ⟨b1, 1, none⟩ (.int .i64 st)).setCell ⟨b1, 2, none⟩ (.string ⟨u.toArray⟩)).setCell ⟨b1, 3, none⟩ (.int .i64 f)).setCell ⟨b1, 4, none⟩ (.int .i64 un)).setCell ⟨b2, 0, none⟩ (.int .i64 421)).setCell ⟨b2, 1, none⟩ (.slice (some ⟨b, 0, none⟩) 1 1)) = W9 at p1 p2 hfr ⊢
      clear x0 x1 x2 x3 x4 y0 y1 y2 y3 y4 v0 v1 z0 z1 ra0 ra1 ra2 ra3 ra4 m0 m1 m2 m3 m4
      have x0 := p1.cell 0
      have x1 := p1.cell 1
      have x2 := p1.cell 2
      have x3 := p1.cell 3
      have x4 := p1.cell 4
      have y0 := p2.cell 0
      have y1 := p2.cell 1
      simp only [List.getElem?_toArray, List.getElem?_cons_zero, List.getElem?_cons_succ] at x0 x1 x2 x3 x4 y0 y1
      refine bodyPost_ret (v := .tuple #[.agg #[.int .i64 t, .int .i64 st, .string ⟨u.toArray⟩, .int .i64 f, .int .i64 un], .agg #[.int .i64 421, .slice (some ⟨b, 0, none⟩) 1 1]]) ?_ rfl ?_
      · simp [results, Try.f19, go_sem, x0, x1, x2, x3, x4, y0, y1]
      · rw [hr.out]
        have l1 := H2.out.1
        have l2 := H2.out.2
        have l3 := hfr.size
        have l4 := FW.out.size
        have l5 := Hw.out
        have hbb : ¬ (b = b1 ∨ b = b2) := by omega
        refine ⟨b, rfl, (hfr.cell (p := ⟨b, 0, none⟩) l2 hbb).trans H1.out, ⟨by omega, by omega⟩, (FW.out.then_no H3.out).trans hfr fun k hk hl => ?_⟩
        rcases hk with hk | hk <;> omega
  have hst1 : (st == 1) = false := by simpa using hs1
  have hst2 : (st == 2) = false := by simpa using hs2
  have hl1 := Lib.hid hs1
  have hl2 := Lib.hid hs2
  clear hs1 hs2
  go_wp2_with fail
  generalize ((((w.alloc (.cells #[.int .i64 t, .int .i64 st, .string ⟨u.toArray⟩, .int .i64 f, .int .i64 un] 37)).alloc (.cells #[.slice AC nC kC, .slice AG nG kG, .slice AU nU kU, .slice AA nA kA, .string ⟨s0.toArray⟩, .string ⟨s1.toArray⟩, .string ⟨s2.toArray⟩, .string ⟨s3.toArray⟩, .string ⟨s4.toArray⟩, .string ⟨s5.toArray⟩, .string ⟨s6.toArray⟩, .string ⟨s7.toArray⟩, .string ⟨s8.toArray⟩, .string ⟨s9.toArray⟩] 28)).alloc (.cells #[.int .i64 0, .int .i64 0, .string ⟨#[]⟩, .int .i64 0, .int .i64 0] 37)).alloc (.cells #[.int .i64 0, nil] 47)) = W at Hsz0 Hg Hb Hr1 Hr2 F2 Hen ⊢
  obtain ⟨bg, hbg⟩ : ∃ bg, w.heap.size = bg := ⟨_, rfl⟩
  rw [hbg] at Hsz0 Hg Hb Hr1 Hr2 ⊢
  obtain ⟨bc, hbc⟩ : ∃ bc, bg + 1 = bc := ⟨_, rfl⟩
  rw [hbc] at Hsz0 Hb Hr1 Hr2 ⊢
  obtain ⟨b1, hb1⟩ : ∃ b1, bc + 1 = b1 := ⟨_, rfl⟩
  rw [hb1] at Hsz0 Hr1 Hr2 ⊢
  obtain ⟨b2, hb2⟩ : ∃ b2, b1 + 1 = b2 := ⟨_, rfl⟩
  rw [hb2] at Hsz0 Hr2 ⊢
  have Hw := Lib.hid hbg
  clear hbg
  have n1 : bg ≠ b1 := by omega
  have n2 : b1 ≠ bg := by omega
  have n3 : bg ≠ b2 := by omega
  have n4 : b2 ≠ bg := by omega
  have n5 : b1 ≠ b2 := by omega
  have n6 : b2 ≠ b1 := by omega
  refine Hen.out.mono ?_
  rintro e w5 ⟨rfl, hf3⟩
  have g3 := Hg.out.fr hf3 (fun h => h)
  have G3 := Lib.hid g3
  have R31 := Lib.hid (Hr1.out.fr hf3 (fun h => h))
  have R32 := Lib.hid (Hr2.out.fr hf3 (fun h => h))
  have F3 := Lib.hid (F2.out.then_no hf3)
  have hwz := Hsz0.out
  have hwz5 := hf3.size
  clear Hg Hr1 Hr2 F2 hf3 Hen Hsz0
  have q0 := G3.out.cell 0
  have q1 := G3.out.cell 1
  have q2 := G3.out.cell 2
  have q3 := G3.out.cell 3
  have q4 := G3.out.cell 4
  have qz0 := G3.out.frozen 0
  have qz1 := G3.out.frozen 1
  have qz2 := G3.out.frozen 2
  have qz3 := G3.out.frozen 3
  have qz4 := G3.out.frozen 4
  simp only [List.getElem?_toArray, List.getElem?_cons_zero, List.getElem?_cons_succ] at q0 q1 q2 q3 q4
  clear g3
  by_cases h0 : er = 0
  · have hr := Lib.hid (login_ok (t := t) (u := u) (f := f) (user := user) hl1.out hl2.out (decide_eq_true h0))
    have he : (er == 0) = true := by simpa using h0
    clear h0
    go_wp2_with fail
    have hwle : w.heap.size ≤ bg := by have := Hw.out; omega
    have g6 := ((G3.out.put 1 (.int .i64 1)).put 2 (.string ⟨user.toArray⟩))
    simp at g6
    have r61 := ((R31.out.far (p := ⟨bg, 1, none⟩) n2 (.int .i64 1)).far (p := ⟨bg, 2, none⟩) n2 (.string ⟨user.toArray⟩))
    have r62 := ((R32.out.far (p := ⟨bg, 1, none⟩) n4 (.int .i64 1)).far (p := ⟨bg, 2, none⟩) n4 (.string ⟨user.toArray⟩))
    have f6 := ((F3.out.setCell (p := ⟨bg, 1, none⟩) (.inr hwle) (.int .i64 1)).setCell (p := ⟨bg, 2, none⟩) (.inr hwle) (.string ⟨user.toArray⟩))
    have hwz6 : b2 < ((w5.setCell ⟨bg, 1, none⟩ (.int .i64 1)).setCell ⟨bg, 2, none⟩ (.string ⟨user.toArray⟩)).heap.size := r62.lt
    generalize ((w5.setCell ⟨bg, 1, none⟩ (.int .i64 1)).setCell ⟨bg, 2, none⟩ (.string ⟨user.toArray⟩)) = W6 at g6 r61 r62 f6 hwz6 ⊢
    have Hg := Lib.hid g6
    have Hr1 := Lib.hid r61
    have Hr2 := Lib.hid r62
    have FW := Lib.hid f6
    clear q0 q1 q2 q3 q4 qz0 qz1 qz2 qz3 qz4 g6 r61 r62 f6
    have m0 := Hg.out.cell 0
    have m1 := Hg.out.cell 1
    have m2 := Hg.out.cell 2
    have m3 := Hg.out.cell 3
    have m4 := Hg.out.cell 4
    simp only [List.getElem?_toArray, List.getElem?_cons_zero, List.getElem?_cons_succ] at m0 m1 m2 m3 m4
    have hlg : bg < W6.heap.size := by omega
    have hcu : ¬ 9223372036854775807 < 8 + u.length := by omega
    have hcs : ¬ 9223372036854775807 < 8 + user.length := by omega
    have hcu2 : 8 + u.length ≤ 9223372036854775807 := by omega
    have hcs2 : 8 + user.length ≤ 9223372036854775807 := by omega
    go_region_held3 (fun w' => w'.cell? ⟨bg, 0, none⟩ = some (.int .i64 t) ∧ w'.cell? ⟨bg, 1, none⟩ = some (.int .i64 1) ∧ w'.cell? ⟨bg, 2, none⟩ = some (.string ⟨user.toArray⟩) ∧ w'.cell? ⟨bg, 3, none⟩ = some (.int .i64 f) ∧ w'.cell? ⟨bg, 4, none⟩ = some (.int .i64 un)) (go_keep) ((go_at_call 56; refine (rone_any _ _ _).mono ?_; rintro e w3 ⟨b, rfl, h1, h2, h3⟩; have h3 := (by first | exact (Fr.refl No W6).then_no h3 | exact (Fr.refl No W6).drew.then_no h3 : Fr No W6 w3); have h2 := (show New W6 w3 b from ⟨h2.1, h2.2⟩); have ra0 := (h3.cell (p := ⟨bg, 0, none⟩) hlg (fun h => h)).trans m0; have ra1 := (h3.cell (p := ⟨bg, 1, none⟩) hlg (fun h => h)).trans m1; have ra2 := (h3.cell (p := ⟨bg, 2, none⟩) hlg (fun h => h)).trans m2; have ra3 := (h3.cell (p := ⟨bg, 3, none⟩) hlg (fun h => h)).trans m3; have ra4 := (h3.cell (p := ⟨bg, 4, none⟩) hlg (fun h => h)).trans m4; have R1 := Hr1.out.fr h3 (fun h => h); have R2 := Hr2.out.fr h3 (fun h => h); have x0 := R1.cell 0; have y0 := R1.frozen 0; have x1 := R1.cell 1; have y1 := R1.frozen 1; have x2 := R1.cell 2; have y2 := R1.frozen 2; have x3 := R1.cell 3; have y3 := R1.frozen 3; have x4 := R1.cell 4; have y4 := R1.frozen 4;have v0 := R2.cell 0; have z0 := R2.frozen 0; have v1 := R2.cell 1; have z1 := R2.frozen 1; simp only [List.getElem?_toArray, List.getElem?_cons_zero, List.getElem?_cons_succ] at x0 x1 x2 x3 x4 v0 v1; have HR1 := Lib.hid R1; have HR2 := Lib.hid R2; have H1 := Lib.hid h1; have H2 := Lib.hid h2; have H3 := Lib.hid h3; clear R1 R2 h1 h2 h3))
    all_goals
      go_wp2_with fail
      have p1 := (((((((HR1.out.put 0 (.int .i64 t)).put 1 (.int .i64 1)).put 2 (.string ⟨user.toArray⟩)).put 3 (.int .i64 f)).put 4 (.int .i64 un)).far (p := ⟨b2, 0, none⟩) n5 (.int .i64 230)).far (p := ⟨b2, 1, none⟩) n5 (.slice (some ⟨b, 0, none⟩) 1 1))
      have p2 := (((((((HR2.out.far (p := ⟨b1, 0, none⟩) n6 (.int .i64 t)).far (p := ⟨b1, 1, none⟩) n6 (.int .i64 1)).far (p := ⟨b1, 2, none⟩) n6 (.string ⟨user.toArray⟩)).far (p := ⟨b1, 3, none⟩) n6 (.int .i64 f)).far (p := ⟨b1, 4, none⟩) n6 (.int .i64 un)).put 0 (.int .i64 230)).put 1 (.slice (some ⟨b, 0, none⟩) 1 1))
      simp at p1 p2
      have hfr := ((((((((Fr.refl (fun k => k = b1 ∨ k = b2) w3).setCell (p := ⟨b1, 0, none⟩) (.inl (.inl rfl)) (.int .i64 t)).setCell (p := ⟨b1, 1, none⟩) (.inl (.inl rfl)) (.int .i64 1)).setCell (p := ⟨b1, 2, none⟩) (.inl (.inl rfl)) (.string ⟨user.toArray⟩)).setCell (p := ⟨b1, 3, none⟩) (.inl (.inl rfl)) (.int .i64 f)).setCell (p := ⟨b1, 4, none⟩) (.inl (.inl rfl)) (.int .i64 un)).setCell (p := ⟨b2, 0, none⟩) (.inl (.inr rfl)) (.int .i64 230)).setCell (p := ⟨b2, 1, none⟩) (.inl (.inr rfl)) (.slice (some ⟨b, 0, none⟩) 1 1))
      generalize (((((((w3.setCell ⟨b1, 0, none⟩ (.int .i64 t)).setCell ⟨b1, 1, none⟩ (.int .i64 1)).setCell ⟨b1, 2, none⟩ (.string ⟨user.toArray⟩)).setCell ⟨b1, 3, none⟩ (.int .i64 f)).setCell ⟨b1, 4, none⟩ (.int .i64 un)).setCell ⟨b2, 0, none⟩ (.int .i64 230)).setCell ⟨b2, 1, none⟩ (.slice (some ⟨b, 0, none⟩) 1 1)) = W9 at p1 p2 hfr ⊢
      clear x0 x1 x2 x3 x4 y0 y1 y2 y3 y4 v0 v1 z0 z1 ra0 ra1 ra2 ra3 ra4 m0 m1 m2 m3 m4
      have x0 := p1.cell 0
      have x1 := p1.cell 1
      have x2 := p1.cell 2
      have x3 := p1.cell 3
      have x4 := p1.cell 4
      have y0 := p2.cell 0
      have y1 := p2.cell 1
      simp only [List.getElem?_toArray, List.getElem?_cons_zero, List.getElem?_cons_succ] at x0 x1 x2 x3 x4 y0 y1
      refine bodyPost_ret (v := .tuple #[.agg #[.int .i64 t, .int .i64 1, .string ⟨user.toArray⟩, .int .i64 f, .int .i64 un], .agg #[.int .i64 230, .slice (some ⟨b, 0, none⟩) 1 1]]) ?_ rfl ?_
      · simp [results, Try.f19, go_sem, x0, x1, x2, x3, x4, y0, y1]
      · rw [hr.out]
        have l1 := H2.out.1
        have l2 := H2.out.2
        have l3 := hfr.size
        have l4 := FW.out.size
        have l5 := Hw.out
        have hbb : ¬ (b = b1 ∨ b = b2) := by omega
        refine ⟨b, rfl, (hfr.cell (p := ⟨b, 0, none⟩) l2 hbb).trans H1.out, ⟨by omega, by omega⟩, (FW.out.then_no H3.out).trans hfr fun k hk hl => ?_⟩
        rcases hk with hk | hk <;> omega
  have he0 := Lib.hid (decide_eq_false h0)
  have he : (er == 0) = false := by simpa using h0
  clear h0
  by_cases hlt : f + 1 < t
  · have hr := Lib.hid (login_no (u := u) (user := user) hl1.out hl2.out he0.out hlt)
    go_wp2_with fail
    have hwle : w.heap.size ≤ bg := by have := Hw.out; omega
    have g6 := (G3.out.put 3 (.int .i64 (f + 1)))
    simp at g6
    have r61 := (R31.out.far (p := ⟨bg, 3, none⟩) n2 (.int .i64 (f + 1)))
    have r62 := (R32.out.far (p := ⟨bg, 3, none⟩) n4 (.int .i64 (f + 1)))
    have f6 := (F3.out.setCell (p := ⟨bg, 3, none⟩) (.inr hwle) (.int .i64 (f + 1)))
    have hwz6 : b2 < (w5.setCell ⟨bg, 3, none⟩ (.int .i64 (f + 1))).heap.size := r62.lt
    generalize (w5.setCell ⟨bg, 3, none⟩ (.int .i64 (f + 1))) = W6 at g6 r61 r62 f6 hwz6 ⊢
    have Hg := Lib.hid g6
    have Hr1 := Lib.hid r61
    have Hr2 := Lib.hid r62
    have FW := Lib.hid f6
    clear q0 q1 q2 q3 q4 qz0 qz1 qz2 qz3 qz4 g6 r61 r62 f6
    have m0 := Hg.out.cell 0
    have m1 := Hg.out.cell 1
    have m2 := Hg.out.cell 2
    have m3 := Hg.out.cell 3
    have m4 := Hg.out.cell 4
    simp only [List.getElem?_toArray, List.getElem?_cons_zero, List.getElem?_cons_succ] at m0 m1 m2 m3 m4
    have hlg : bg < W6.heap.size := by omega
    have hcu : ¬ 9223372036854775807 < 8 + u.length := by omega
    have hcs : ¬ 9223372036854775807 < 8 + user.length := by omega
    have hcu2 : 8 + u.length ≤ 9223372036854775807 := by omega
    have hcs2 : 8 + user.length ≤ 9223372036854775807 := by omega
    go_region_held3 (fun w' => w'.cell? ⟨bg, 0, none⟩ = some (.int .i64 t) ∧ w'.cell? ⟨bg, 1, none⟩ = some (.int .i64 st) ∧ w'.cell? ⟨bg, 2, none⟩ = some (.string ⟨u.toArray⟩) ∧ w'.cell? ⟨bg, 3, none⟩ = some (.int .i64 (f + 1)) ∧ w'.cell? ⟨bg, 4, none⟩ = some (.int .i64 un)) (go_keep) ((go_at_call 56; refine (rone_any _ _ _).mono ?_; rintro e w3 ⟨b, rfl, h1, h2, h3⟩; have h3 := (by first | exact (Fr.refl No W6).then_no h3 | exact (Fr.refl No W6).drew.then_no h3 : Fr No W6 w3); have h2 := (show New W6 w3 b from ⟨h2.1, h2.2⟩); have ra0 := (h3.cell (p := ⟨bg, 0, none⟩) hlg (fun h => h)).trans m0; have ra1 := (h3.cell (p := ⟨bg, 1, none⟩) hlg (fun h => h)).trans m1; have ra2 := (h3.cell (p := ⟨bg, 2, none⟩) hlg (fun h => h)).trans m2; have ra3 := (h3.cell (p := ⟨bg, 3, none⟩) hlg (fun h => h)).trans m3; have ra4 := (h3.cell (p := ⟨bg, 4, none⟩) hlg (fun h => h)).trans m4; have R1 := Hr1.out.fr h3 (fun h => h); have R2 := Hr2.out.fr h3 (fun h => h); have x0 := R1.cell 0; have y0 := R1.frozen 0; have x1 := R1.cell 1; have y1 := R1.frozen 1; have x2 := R1.cell 2; have y2 := R1.frozen 2; have x3 := R1.cell 3; have y3 := R1.frozen 3; have x4 := R1.cell 4; have y4 := R1.frozen 4;have v0 := R2.cell 0; have z0 := R2.frozen 0; have v1 := R2.cell 1; have z1 := R2.frozen 1; simp only [List.getElem?_toArray, List.getElem?_cons_zero, List.getElem?_cons_succ] at x0 x1 x2 x3 x4 v0 v1; have HR1 := Lib.hid R1; have HR2 := Lib.hid R2; have H1 := Lib.hid h1; have H2 := Lib.hid h2; have H3 := Lib.hid h3; clear R1 R2 h1 h2 h3))
    all_goals
      go_wp2_with fail
      have p1 := (((((((HR1.out.put 0 (.int .i64 t)).put 1 (.int .i64 st)).put 2 (.string ⟨u.toArray⟩)).put 3 (.int .i64 (f + 1))).put 4 (.int .i64 un)).far (p := ⟨b2, 0, none⟩) n5 (.int .i64 430)).far (p := ⟨b2, 1, none⟩) n5 (.slice (some ⟨b, 0, none⟩) 1 1))
      have p2 := (((((((HR2.out.far (p := ⟨b1, 0, none⟩) n6 (.int .i64 t)).far (p := ⟨b1, 1, none⟩) n6 (.int .i64 st)).far (p := ⟨b1, 2, none⟩) n6 (.string ⟨u.toArray⟩)).far (p := ⟨b1, 3, none⟩) n6 (.int .i64 (f + 1))).far (p := ⟨b1, 4, none⟩) n6 (.int .i64 un)).put 0 (.int .i64 430)).put 1 (.slice (some ⟨b, 0, none⟩) 1 1))
      simp at p1 p2
      have hfr := ((((((((Fr.refl (fun k => k = b1 ∨ k = b2) w3).setCell (p := ⟨b1, 0, none⟩) (.inl (.inl rfl)) (.int .i64 t)).setCell (p := ⟨b1, 1, none⟩) (.inl (.inl rfl)) (.int .i64 st)).setCell (p := ⟨b1, 2, none⟩) (.inl (.inl rfl)) (.string ⟨u.toArray⟩)).setCell (p := ⟨b1, 3, none⟩) (.inl (.inl rfl)) (.int .i64 (f + 1))).setCell (p := ⟨b1, 4, none⟩) (.inl (.inl rfl)) (.int .i64 un)).setCell (p := ⟨b2, 0, none⟩) (.inl (.inr rfl)) (.int .i64 430)).setCell (p := ⟨b2, 1, none⟩) (.inl (.inr rfl)) (.slice (some ⟨b, 0, none⟩) 1 1))
      generalize (((((((w3.setCell ⟨b1, 0, none⟩ (.int .i64 t)).setCell ⟨b1, 1, none⟩ (.int .i64 st)).setCell ⟨b1, 2, none⟩ (.string ⟨u.toArray⟩)).setCell ⟨b1, 3, none⟩ (.int .i64 (f + 1))).setCell ⟨b1, 4, none⟩ (.int .i64 un)).setCell ⟨b2, 0, none⟩ (.int .i64 430)).setCell ⟨b2, 1, none⟩ (.slice (some ⟨b, 0, none⟩) 1 1)) = W9 at p1 p2 hfr ⊢
      clear x0 x1 x2 x3 x4 y0 y1 y2 y3 y4 v0 v1 z0 z1 ra0 ra1 ra2 ra3 ra4 m0 m1 m2 m3 m4
      have x0 := p1.cell 0
      have x1 := p1.cell 1
      have x2 := p1.cell 2
      have x3 := p1.cell 3
      have x4 := p1.cell 4
      have y0 := p2.cell 0
      have y1 := p2.cell 1
      simp only [List.getElem?_toArray, List.getElem?_cons_zero, List.getElem?_cons_succ] at x0 x1 x2 x3 x4 y0 y1
      refine bodyPost_ret (v := .tuple #[.agg #[.int .i64 t, .int .i64 st, .string ⟨u.toArray⟩, .int .i64 (f + 1), .int .i64 un], .agg #[.int .i64 430, .slice (some ⟨b, 0, none⟩) 1 1]]) ?_ rfl ?_
      · simp [results, Try.f19, go_sem, x0, x1, x2, x3, x4, y0, y1]
      · rw [hr.out]
        have l1 := H2.out.1
        have l2 := H2.out.2
        have l3 := hfr.size
        have l4 := FW.out.size
        have l5 := Hw.out
        have hbb : ¬ (b = b1 ∨ b = b2) := by omega
        refine ⟨b, rfl, (hfr.cell (p := ⟨b, 0, none⟩) l2 hbb).trans H1.out, ⟨by omega, by omega⟩, (FW.out.then_no H3.out).trans hfr fun k hk hl => ?_⟩
        rcases hk with hk | hk <;> omega
  · have hr := Lib.hid (login_end (u := u) (user := user) hl1.out hl2.out he0.out hlt)
    go_wp2_with fail
    have hwle : w.heap.size ≤ bg := by have := Hw.out; omega
    have g6 := ((G3.out.put 3 (.int .i64 (f + 1))).put 1 (.int .i64 2))
    simp at g6
    have r61 := ((R31.out.far (p := ⟨bg, 3, none⟩) n2 (.int .i64 (f + 1))).far (p := ⟨bg, 1, none⟩) n2 (.int .i64 2))
    have r62 := ((R32.out.far (p := ⟨bg, 3, none⟩) n4 (.int .i64 (f + 1))).far (p := ⟨bg, 1, none⟩) n4 (.int .i64 2))
    have f6 := ((F3.out.setCell (p := ⟨bg, 3, none⟩) (.inr hwle) (.int .i64 (f + 1))).setCell (p := ⟨bg, 1, none⟩) (.inr hwle) (.int .i64 2))
    have hwz6 : b2 < ((w5.setCell ⟨bg, 3, none⟩ (.int .i64 (f + 1))).setCell ⟨bg, 1, none⟩ (.int .i64 2)).heap.size := r62.lt
    generalize ((w5.setCell ⟨bg, 3, none⟩ (.int .i64 (f + 1))).setCell ⟨bg, 1, none⟩ (.int .i64 2)) = W6 at g6 r61 r62 f6 hwz6 ⊢
    have Hg := Lib.hid g6
    have Hr1 := Lib.hid r61
    have Hr2 := Lib.hid r62
    have FW := Lib.hid f6
    clear q0 q1 q2 q3 q4 qz0 qz1 qz2 qz3 qz4 g6 r61 r62 f6
    have m0 := Hg.out.cell 0
    have m1 := Hg.out.cell 1
    have m2 := Hg.out.cell 2
    have m3 := Hg.out.cell 3
    have m4 := Hg.out.cell 4
    simp only [List.getElem?_toArray, List.getElem?_cons_zero, List.getElem?_cons_succ] at m0 m1 m2 m3 m4
    have hlg : bg < W6.heap.size := by omega
    have hcu : ¬ 9223372036854775807 < 8 + u.length := by omega
    have hcs : ¬ 9223372036854775807 < 8 + user.length := by omega
    have hcu2 : 8 + u.length ≤ 9223372036854775807 := by omega
    have hcs2 : 8 + user.length ≤ 9223372036854775807 := by omega
    go_region_held3 (fun w' => w'.cell? ⟨bg, 0, none⟩ = some (.int .i64 t) ∧ w'.cell? ⟨bg, 1, none⟩ = some (.int .i64 2) ∧ w'.cell? ⟨bg, 2, none⟩ = some (.string ⟨u.toArray⟩) ∧ w'.cell? ⟨bg, 3, none⟩ = some (.int .i64 (f + 1)) ∧ w'.cell? ⟨bg, 4, none⟩ = some (.int .i64 un)) (go_keep) ((go_at_call 56; refine (rone_any _ _ _).mono ?_; rintro e w3 ⟨b, rfl, h1, h2, h3⟩; have h3 := (by first | exact (Fr.refl No W6).then_no h3 | exact (Fr.refl No W6).drew.then_no h3 : Fr No W6 w3); have h2 := (show New W6 w3 b from ⟨h2.1, h2.2⟩); have ra0 := (h3.cell (p := ⟨bg, 0, none⟩) hlg (fun h => h)).trans m0; have ra1 := (h3.cell (p := ⟨bg, 1, none⟩) hlg (fun h => h)).trans m1; have ra2 := (h3.cell (p := ⟨bg, 2, none⟩) hlg (fun h => h)).trans m2; have ra3 := (h3.cell (p := ⟨bg, 3, none⟩) hlg (fun h => h)).trans m3; have ra4 := (h3.cell (p := ⟨bg, 4, none⟩) hlg (fun h => h)).trans m4; have R1 := Hr1.out.fr h3 (fun h => h); have R2 := Hr2.out.fr h3 (fun h => h); have x0 := R1.cell 0; have y0 := R1.frozen 0; have x1 := R1.cell 1; have y1 := R1.frozen 1; have x2 := R1.cell 2; have y2 := R1.frozen 2; have x3 := R1.cell 3; have y3 := R1.frozen 3; have x4 := R1.cell 4; have y4 := R1.frozen 4;have v0 := R2.cell 0; have z0 := R2.frozen 0; have v1 := R2.cell 1; have z1 := R2.frozen 1; simp only [List.getElem?_toArray, List.getElem?_cons_zero, List.getElem?_cons_succ] at x0 x1 x2 x3 x4 v0 v1; have HR1 := Lib.hid R1; have HR2 := Lib.hid R2; have H1 := Lib.hid h1; have H2 := Lib.hid h2; have H3 := Lib.hid h3; clear R1 R2 h1 h2 h3))
    all_goals
      go_wp2_with fail
      have p1 := (((((((HR1.out.put 0 (.int .i64 t)).put 1 (.int .i64 2)).put 2 (.string ⟨u.toArray⟩)).put 3 (.int .i64 (f + 1))).put 4 (.int .i64 un)).far (p := ⟨b2, 0, none⟩) n5 (.int .i64 421)).far (p := ⟨b2, 1, none⟩) n5 (.slice (some ⟨b, 0, none⟩) 1 1))
      have p2 := (((((((HR2.out.far (p := ⟨b1, 0, none⟩) n6 (.int .i64 t)).far (p := ⟨b1, 1, none⟩) n6 (.int .i64 2)).far (p := ⟨b1, 2, none⟩) n6 (.string ⟨u.toArray⟩)).far (p := ⟨b1, 3, none⟩) n6 (.int .i64 (f + 1))).far (p := ⟨b1, 4, none⟩) n6 (.int .i64 un)).put 0 (.int .i64 421)).put 1 (.slice (some ⟨b, 0, none⟩) 1 1))
      simp at p1 p2
      have hfr := ((((((((Fr.refl (fun k => k = b1 ∨ k = b2) w3).setCell (p := ⟨b1, 0, none⟩) (.inl (.inl rfl)) (.int .i64 t)).setCell (p := ⟨b1, 1, none⟩) (.inl (.inl rfl)) (.int .i64 2)).setCell (p := ⟨b1, 2, none⟩) (.inl (.inl rfl)) (.string ⟨u.toArray⟩)).setCell (p := ⟨b1, 3, none⟩) (.inl (.inl rfl)) (.int .i64 (f + 1))).setCell (p := ⟨b1, 4, none⟩) (.inl (.inl rfl)) (.int .i64 un)).setCell (p := ⟨b2, 0, none⟩) (.inl (.inr rfl)) (.int .i64 421)).setCell (p := ⟨b2, 1, none⟩) (.inl (.inr rfl)) (.slice (some ⟨b, 0, none⟩) 1 1))
      generalize (((((((w3.setCell ⟨b1, 0, none⟩ (.int .i64 t)).setCell ⟨b1, 1, none⟩ (.int .i64 2)).setCell ⟨b1, 2, none⟩ (.string ⟨u.toArray⟩)).setCell ⟨b1, 3, none⟩ (.int .i64 (f + 1))).setCell ⟨b1, 4, none⟩ (.int .i64 un)).setCell ⟨b2, 0, none⟩ (.int .i64 421)).setCell ⟨b2, 1, none⟩ (.slice (some ⟨b, 0, none⟩) 1 1)) = W9 at p1 p2 hfr ⊢
      clear x0 x1 x2 x3 x4 y0 y1 y2 y3 y4 v0 v1 z0 z1 ra0 ra1 ra2 ra3 ra4 m0 m1 m2 m3 m4
      have x0 := p1.cell 0
      have x1 := p1.cell 1
      have x2 := p1.cell 2
      have x3 := p1.cell 3
      have x4 := p1.cell 4
      have y0 := p2.cell 0
      have y1 := p2.cell 1
      simp only [List.getElem?_toArray, List.getElem?_cons_zero, List.getElem?_cons_succ] at x0 x1 x2 x3 x4 y0 y1
      refine bodyPost_ret (v := .tuple #[.agg #[.int .i64 t, .int .i64 2, .string ⟨u.toArray⟩, .int .i64 (f + 1), .int .i64 un], .agg #[.int .i64 421, .slice (some ⟨b, 0, none⟩) 1 1]]) ?_ rfl ?_
      · simp [results, Try.f19, go_sem, x0, x1, x2, x3, x4, y0, y1]
      · rw [hr.out]
        have l1 := H2.out.1
        have l2 := H2.out.2
        have l3 := hfr.size
        have l4 := FW.out.size
        have l5 := Hw.out
        have hbb : ¬ (b = b1 ∨ b = b2) := by omega
        refine ⟨b, rfl, (hfr.cell (p := ⟨b, 0, none⟩) l2 hbb).trans H1.out, ⟨by omega, by omega⟩, (FW.out.then_no H3.out).trans hfr fun k hk hl => ?_⟩
        rcases hk with hk | hk <;> omega
end Gate
end Go.Proofs.Ytllnaflknnkgiaa
