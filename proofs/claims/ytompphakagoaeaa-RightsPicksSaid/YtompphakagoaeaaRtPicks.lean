/- Rights: the walk of Picks. Printed by gen_rtlaw.py. -/
import Derived.Test.YtompphakagoaeaaRtHead
import Derived.BigQuiet
import Derived.Deep.CutRange
import Derived.Deep.RegionHeld3
namespace Go.Proofs.Ytompphakagoaeaa
open Go.RowKit
set_option linter.unusedVariables false
set_option linter.unusedSimpArgs false
namespace Conf
open Word
theorem ok_one (p a : Str) : okP [p] a = matchR p a := by simp [okP]
theorem one_slS {w : World} {g : Nat} {name : Str} (hb : Blk w g 9 #[.string ⟨name.toArray⟩]) (hn : name.length ≤ 40) : RSl 1 RS40 w (fun k => k = g) [.slice (some ⟨g, 0, none⟩) 1 1] [name] := by
  refine ⟨some ⟨g, 0, none⟩, 1, rfl, Nat.le_refl _, by unfold maxLen; decide, (fun h => by cases h), fun i hi => ?_⟩
  obtain rfl : i = 0 := by simpa using hi
  refine ⟨⟨g, 0, none⟩, [.string ⟨name.toArray⟩], rfl, rfl, rfl, fun j hj => ?_, rfl, hn⟩
  obtain rfl : j = 0 := by omega
  have := hb.cell 0
  simpa [Addr.add] using this
theorem pick_no {x : C} {user name : Str} {i c : Int} (h : pickR x user name = (i, c)) (hc : ¬ c = 0) : i = -1 := by
  unfold pickR at h
  split at h
  · injection h with h1 h2; exact absurd h2.symm hc
  · split at h
    · injection h with h1 h2; exact h1.symm
    · injection h with h1 h2; exact absurd h2.symm hc
    · injection h with h1 h2; exact h1.symm
theorem pick_yes {x : C} {user name : Str} {i : Int} (h : pickR x user name = (i, 0)) : ∃ (k : Nat) (hk : k < x.1.length), i = (k : Int) ∧ 1 ≤ levelR x.2.2.2.1 user x.1[k].1 := by
  unfold pickR at h
  split at h
  · rename_i hh
    injection h with h1 h2
    obtain ⟨k, hk, e, hn⟩ := find_at hh.1
    have h3 := hh.2
    unfold seesP at h3
    rw [← hn] at h3
    exact ⟨k, hk, by rw [← h1, e], of_decide_eq_true h3⟩
  · split at h
    · injection h with h1 h2
      split at h2 <;> cases h2
    · rename_i hh
      injection h with h1 h2
      have hm : i ∈ pickL x user name := by rw [hh, h1]; simp
      obtain ⟨k, hk, e, hs⟩ := sees_lt (List.mem_filter.1 hm).1
      exact ⟨k, hk, e, of_decide_eq_true hs⟩
    · injection h with h1 h2; cases h2
set_option maxRecDepth 100000 in
set_option maxHeartbeats 4000000 in
theorem walk_RightsPicks (W : World) (c0 : Array Value) (x0 : ((List (Str × (Int × (Int × (Int × (Int × (Int × (Int × (Int × (Int × Str)))))))))) × ((List (Str × (List Str))) × ((List (Str × Str)) × ((List (Str × (Str × Int))) × (List Str)))))) (h0 : (RTwo 1 (RSl 10 (RTwo 1 RStr (RTwo 1 (RInt .i64) (RTwo 1 (RInt .i64) (RTwo 1 (RInt .i64) (RTwo 1 (RInt .i64) (RTwo 1 (RInt .i64) (RTwo 1 (RInt .i64) (RTwo 1 (RInt .i64) (RTwo 1 (RInt .i64) RStr)))))))))) (RTwo 1 (RSl 2 (RTwo 1 RStr (RSl 1 RStr))) (RTwo 1 (RSl 2 (RTwo 1 RStr RStr)) (RTwo 1 (RSl 3 (RTwo 1 RStr (RTwo 1 RStr (RInt .i64)))) (RArr 10 1 RStr))))) W (Ahead W.heap.size) c0.toList x0) (v1 : Value) (x1 : Str) (h1 : RStr W (Ahead W.heap.size) [v1] x1) (v2 : Value) (x2 : Str) (h2 : RStr W (Ahead W.heap.size) [v2] x2) : Calls Try.prog 5 #[.agg c0, v1, v2] W fun e w' => e = .returned (.bool true) ∧ Fr No W w' := by
  obtain ⟨h1a, -⟩ := h1
  injection h1a with h1a _
  subst h1a
  obtain ⟨h2a, -⟩ := h2
  injection h2a with h2a _
  subst h2a
  obtain ⟨AaC, AaG, AaU, AaA, naC, kaC, naG, kaG, naU, kaU, naA, kaA, s0, s1, s2, s3, s4, s5, s6, s7, s8, s9, hc0⟩ := r_cells h0
  rw [hc0] at h0 ⊢
  have H0 := Lib.hid h0
  clear hc0 h0
  have F1 := Lib.hid ((Fr.refl No W).alloc (.cells #[.slice AaC naC kaC, .slice AaG naG kaG, .slice AaU naU kaU, .slice AaA naA kaA, .string ⟨s0.toArray⟩, .string ⟨s1.toArray⟩, .string ⟨s2.toArray⟩, .string ⟨s3.toArray⟩, .string ⟨s4.toArray⟩, .string ⟨s5.toArray⟩, .string ⟨s6.toArray⟩, .string ⟨s7.toArray⟩, .string ⟨s8.toArray⟩, .string ⟨s9.toArray⟩] 28))
  have B1 := Lib.hid (Blk.new W 28 #[.slice AaC naC kaC, .slice AaG naG kaG, .slice AaU naU kaU, .slice AaA naA kaA, .string ⟨s0.toArray⟩, .string ⟨s1.toArray⟩, .string ⟨s2.toArray⟩, .string ⟨s3.toArray⟩, .string ⟨s4.toArray⟩, .string ⟨s5.toArray⟩, .string ⟨s6.toArray⟩, .string ⟨s7.toArray⟩, .string ⟨s8.toArray⟩, .string ⟨s9.toArray⟩])
  go_enter Try.func5, Try.ntmps5
  go_wp2_with fail
  refine (few_any #[.slice AaC naC kaC, .slice AaG naG kaG, .slice AaU naU kaU, .slice AaA naA kaA, .string ⟨s0.toArray⟩, .string ⟨s1.toArray⟩, .string ⟨s2.toArray⟩, .string ⟨s3.toArray⟩, .string ⟨s4.toArray⟩, .string ⟨s5.toArray⟩, .string ⟨s6.toArray⟩, .string ⟨s7.toArray⟩, .string ⟨s8.toArray⟩, .string ⟨s9.toArray⟩] x0 _ (Ahead W.heap.size) (fun k hk => Nat.lt_of_lt_of_le hk F1.out.size) (Conf.stable.go H0.out (Kept.of_no F1.out fun k hk => hk) fun b hb => hb)).mono ?_
  intro e w2 hp
  obtain ⟨cs, y, rfl, hy, hf2⟩ := hp
  obtain ⟨AbC, kbC, AbG, kbG, AbU, kbU, AbA, kbA, r0, r1, r2, r3, r4, r5, r6, r7, r8, r9, rfl, hyC, -, -, hyA⟩ := q_lit hy
  generalize hnA : y.2.2.2.1.length = nbA at hy hyA ⊢
  generalize y.2.2.1.length = nbU at hy ⊢
  generalize y.2.1.length = nbG at hy ⊢
  generalize hnC : y.1.length = nbC at hy hyC ⊢
  have hb2 := B1.out.fr hf2 (fun h => h)
  have c0 := hb2.cell 0
  have c1 := hb2.cell 1
  have c2 := hb2.cell 2
  have c3 := hb2.cell 3
  have c4 := hb2.cell 4
  have c5 := hb2.cell 5
  have c6 := hb2.cell 6
  have c7 := hb2.cell 7
  have c8 := hb2.cell 8
  have c9 := hb2.cell 9
  have c10 := hb2.cell 10
  have c11 := hb2.cell 11
  have c12 := hb2.cell 12
  have c13 := hb2.cell 13
  have z0 := hb2.frozen 0
  have z1 := hb2.frozen 1
  have z2 := hb2.frozen 2
  have z3 := hb2.frozen 3
  have z4 := hb2.frozen 4
  have z5 := hb2.frozen 5
  have z6 := hb2.frozen 6
  have z7 := hb2.frozen 7
  have z8 := hb2.frozen 8
  have z9 := hb2.frozen 9
  have z10 := hb2.frozen 10
  have z11 := hb2.frozen 11
  have z12 := hb2.frozen 12
  have z13 := hb2.frozen 13
  simp only [List.getElem?_toArray, List.getElem?_cons_zero, List.getElem?_cons_succ] at c0 c1 c2 c3 c4 c5 c6 c7 c8 c9 c10 c11 c12 c13
  have B2 := Lib.hid hb2
  have F2 := Lib.hid (F1.out.then_no hf2)
  have hs2 := hf2.size
  have S1 := Lib.hid (size_alloc W (.cells #[.slice AaC naC kaC, .slice AaG naG kaG, .slice AaU naU kaU, .slice AaA naA kaA, .string ⟨s0.toArray⟩, .string ⟨s1.toArray⟩, .string ⟨s2.toArray⟩, .string ⟨s3.toArray⟩, .string ⟨s4.toArray⟩, .string ⟨s5.toArray⟩, .string ⟨s6.toArray⟩, .string ⟨s7.toArray⟩, .string ⟨s8.toArray⟩, .string ⟨s9.toArray⟩] 28))
  have HY := Lib.hid (And.intro hy (And.intro hyC hyA))
  clear hb2 hf2 hy hyC hyA
  obtain ⟨bc, hbc⟩ : ∃ bc, W.heap.size = bc := ⟨_, rfl⟩
  rw [hbc] at B2 c0 z0 c1 z1 c2 z2 c3 z3 c4 z4 c5 z5 c6 z6 c7 z7 c8 z8 c9 z9 c10 z10 c11 z11 c12 z12 c13 z13 ⊢
  rw [hbc] at S1
  have Hbc := Lib.hid hbc
  clear hbc
  go_wp2_with (go_at_call 7; refine (cut40_any _ _).mono ?_; rintro e w' ⟨rfl, rfl⟩)
  have b3 := ((((((((((((((B2.out.put 0 (.slice AbC nbC kbC)).put 1 (.slice AbG nbG kbG)).put 2 (.slice AbU nbU kbU)).put 3 (.slice AbA nbA kbA)).put 4 (.string ⟨r0.toArray⟩)).put 5 (.string ⟨r1.toArray⟩)).put 6 (.string ⟨r2.toArray⟩)).put 7 (.string ⟨r3.toArray⟩)).put 8 (.string ⟨r4.toArray⟩)).put 9 (.string ⟨r5.toArray⟩)).put 10 (.string ⟨r6.toArray⟩)).put 11 (.string ⟨r7.toArray⟩)).put 12 (.string ⟨r8.toArray⟩)).put 13 (.string ⟨r9.toArray⟩))
  simp only [List.setIfInBounds_toArray, List.set_cons_zero, List.set_cons_succ] at b3
  have f3 : Fr (Just bc) w2 _ := ((((((((((((((Fr.refl (Just bc) w2).setCell (p := ⟨bc, 0, none⟩) (.inl rfl) (.slice AbC nbC kbC)).setCell (p := ⟨bc, 1, none⟩) (.inl rfl) (.slice AbG nbG kbG)).setCell (p := ⟨bc, 2, none⟩) (.inl rfl) (.slice AbU nbU kbU)).setCell (p := ⟨bc, 3, none⟩) (.inl rfl) (.slice AbA nbA kbA)).setCell (p := ⟨bc, 4, none⟩) (.inl rfl) (.string ⟨r0.toArray⟩)).setCell (p := ⟨bc, 5, none⟩) (.inl rfl) (.string ⟨r1.toArray⟩)).setCell (p := ⟨bc, 6, none⟩) (.inl rfl) (.string ⟨r2.toArray⟩)).setCell (p := ⟨bc, 7, none⟩) (.inl rfl) (.string ⟨r3.toArray⟩)).setCell (p := ⟨bc, 8, none⟩) (.inl rfl) (.string ⟨r4.toArray⟩)).setCell (p := ⟨bc, 9, none⟩) (.inl rfl) (.string ⟨r5.toArray⟩)).setCell (p := ⟨bc, 10, none⟩) (.inl rfl) (.string ⟨r6.toArray⟩)).setCell (p := ⟨bc, 11, none⟩) (.inl rfl) (.string ⟨r7.toArray⟩)).setCell (p := ⟨bc, 12, none⟩) (.inl rfl) (.string ⟨r8.toArray⟩)).setCell (p := ⟨bc, 13, none⟩) (.inl rfl) (.string ⟨r9.toArray⟩)
  generalize ((((((((((((((w2.setCell ⟨bc, 0, none⟩ (.slice AbC nbC kbC)).setCell ⟨bc, 1, none⟩ (.slice AbG nbG kbG)).setCell ⟨bc, 2, none⟩ (.slice AbU nbU kbU)).setCell ⟨bc, 3, none⟩ (.slice AbA nbA kbA)).setCell ⟨bc, 4, none⟩ (.string ⟨r0.toArray⟩)).setCell ⟨bc, 5, none⟩ (.string ⟨r1.toArray⟩)).setCell ⟨bc, 6, none⟩ (.string ⟨r2.toArray⟩)).setCell ⟨bc, 7, none⟩ (.string ⟨r3.toArray⟩)).setCell ⟨bc, 8, none⟩ (.string ⟨r4.toArray⟩)).setCell ⟨bc, 9, none⟩ (.string ⟨r5.toArray⟩)).setCell ⟨bc, 10, none⟩ (.string ⟨r6.toArray⟩)).setCell ⟨bc, 11, none⟩ (.string ⟨r7.toArray⟩)).setCell ⟨bc, 12, none⟩ (.string ⟨r8.toArray⟩)).setCell ⟨bc, 13, none⟩ (.string ⟨r9.toArray⟩)) = W3 at b3 f3 ⊢
  clear c0 z0 c1 z1 c2 z2 c3 z3 c4 z4 c5 z5 c6 z6 c7 z7 c8 z8 c9 z9 c10 z10 c11 z11 c12 z12 c13 z13
  have B3 := Lib.hid b3
  have F3 := Lib.hid (F2.out.trans f3 fun k hk hl => by have hk : k = bc := hk; have := Hbc.out; omega)
  have hs3 := f3.size
  obtain ⟨hi, hhi⟩ : ∃ hi, hi = w2.heap.size := ⟨_, rfl⟩
  have hlt3 : bc + 1 ≤ hi ∧ hi ≤ W3.heap.size := by have := B2.out.lt; omega
  have hkp : Kept (New (W.alloc (.cells #[.slice AaC naC kaC, .slice AaG naG kaG, .slice AaU naU kaU, .slice AaA naA kaA, .string ⟨s0.toArray⟩, .string ⟨s1.toArray⟩, .string ⟨s2.toArray⟩, .string ⟨s3.toArray⟩, .string ⟨s4.toArray⟩, .string ⟨s5.toArray⟩, .string ⟨s6.toArray⟩, .string ⟨s7.toArray⟩, .string ⟨s8.toArray⟩, .string ⟨s9.toArray⟩] 28)) w2) w2 W3 := Kept.of_fr f3 fun b hb => ⟨hb.2, fun e => by have e : b = bc := e; have := hb.1; have := S1.out; omega⟩
  have hsb : ∀ b, New (W.alloc (.cells #[.slice AaC naC kaC, .slice AaG naG kaG, .slice AaU naU kaU, .slice AaA naA kaA, .string ⟨s0.toArray⟩, .string ⟨s1.toArray⟩, .string ⟨s2.toArray⟩, .string ⟨s3.toArray⟩, .string ⟨s4.toArray⟩, .string ⟨s5.toArray⟩, .string ⟨s6.toArray⟩, .string ⟨s7.toArray⟩, .string ⟨s8.toArray⟩, .string ⟨s9.toArray⟩] 28)) w2 b → Btw (bc + 1) hi b := fun b hb => ⟨by have := hb.1; have := S1.out; omega, by have := hb.2; omega⟩
  have hy3 := stable_q.go HY.out.1 (S' := Btw (bc + 1) hi) hkp hsb
  have Y3 := Lib.hid hy3
  have YA := Lib.hid ((RSq.stable stable_qacc).go HY.out.2.2 (S' := Btw (bc + 1) hi) hkp hsb)
  have YC := Lib.hid ((RSq.stable stable_qcon).go HY.out.2.1 (S' := Btw (bc + 1) hi) hkp hsb)
  have hS3 : ∀ k, Btw (bc + 1) hi k → k < W3.heap.size := fun k hk => Nat.lt_of_lt_of_le hk.2 hlt3.2
  have hst := fun W (hf : Fr No W3 W) => (show (∀ k, Btw (bc + 1) hi k → k < W.heap.size) ∧ QConf W (Btw (bc + 1) hi) (#[.slice AbC nbC kbC, .slice AbG nbG kbG, .slice AbU nbU kbU, .slice AbA nbA kbA, .string ⟨r0.toArray⟩, .string ⟨r1.toArray⟩, .string ⟨r2.toArray⟩, .string ⟨r3.toArray⟩, .string ⟨r4.toArray⟩, .string ⟨r5.toArray⟩, .string ⟨r6.toArray⟩, .string ⟨r7.toArray⟩, .string ⟨r8.toArray⟩, .string ⟨r9.toArray⟩] : Array Value).toList y from ⟨fun k hk => Nat.lt_of_lt_of_le (hS3 k hk) hf.size, stable_q.go hy3 (Kept.of_no hf hS3) (fun b hb => hb)⟩)
  have HS3 := Lib.hid hS3
  clear b3 f3 HY B2 F2 S1 hhi hs2 hs3 hkp hsb hy3 F1 B1 H0 hS3
  have hu := cut40_le x1
  have hn := cut40_le x2
  have HG := Lib.hid (fun W (hf : Fr No W3 W) => group_any #[.slice AbC nbC kbC, .slice AbG nbG kbG, .slice AbU nbU kbU, .slice AbA nbA kbA, .string ⟨r0.toArray⟩, .string ⟨r1.toArray⟩, .string ⟨r2.toArray⟩, .string ⟨r3.toArray⟩, .string ⟨r4.toArray⟩, .string ⟨r5.toArray⟩, .string ⟨r6.toArray⟩, .string ⟨r7.toArray⟩, .string ⟨r8.toArray⟩, .string ⟨r9.toArray⟩] y (cutS x2) W (Btw (bc + 1) hi) (hst W hf).1 (hst W hf).2)
  have HRG := Lib.hid (fun W (hf : Fr No W3 W) => rgroup_any #[.slice AbC nbC kbC, .slice AbG nbG kbG, .slice AbU nbU kbU, .slice AbA nbA kbA, .string ⟨r0.toArray⟩, .string ⟨r1.toArray⟩, .string ⟨r2.toArray⟩, .string ⟨r3.toArray⟩, .string ⟨r4.toArray⟩, .string ⟨r5.toArray⟩, .string ⟨r6.toArray⟩, .string ⟨r7.toArray⟩, .string ⟨r8.toArray⟩, .string ⟨r9.toArray⟩] y (cutS x2) W (Btw (bc + 1) hi) (hst W hf).1 (hst W hf).2)
  have HP := Lib.hid (fun W (hf : Fr No W3 W) => pick_any #[.slice AbC nbC kbC, .slice AbG nbG kbG, .slice AbU nbU kbU, .slice AbA nbA kbA, .string ⟨r0.toArray⟩, .string ⟨r1.toArray⟩, .string ⟨r2.toArray⟩, .string ⟨r3.toArray⟩, .string ⟨r4.toArray⟩, .string ⟨r5.toArray⟩, .string ⟨r6.toArray⟩, .string ⟨r7.toArray⟩, .string ⟨r8.toArray⟩, .string ⟨r9.toArray⟩] y (cutS x1) (cutS x2) W (Btw (bc + 1) hi) (hst W hf).1 (hst W hf).2 hu hn)
  have HRP := Lib.hid (fun W (hf : Fr No W3 W) => rpick_any #[.slice AbC nbC kbC, .slice AbG nbG kbG, .slice AbU nbU kbU, .slice AbA nbA kbA, .string ⟨r0.toArray⟩, .string ⟨r1.toArray⟩, .string ⟨r2.toArray⟩, .string ⟨r3.toArray⟩, .string ⟨r4.toArray⟩, .string ⟨r5.toArray⟩, .string ⟨r6.toArray⟩, .string ⟨r7.toArray⟩, .string ⟨r8.toArray⟩, .string ⟨r9.toArray⟩] y (cutS x1) (cutS x2) W (Btw (bc + 1) hi) (hst W hf).1 (hst W hf).2 hu hn)
  have HF := Lib.hid (fun W (hf : Fr No W3 W) => fit_any #[.slice AbC nbC kbC, .slice AbG nbG kbG, .slice AbU nbU kbU, .slice AbA nbA kbA, .string ⟨r0.toArray⟩, .string ⟨r1.toArray⟩, .string ⟨r2.toArray⟩, .string ⟨r3.toArray⟩, .string ⟨r4.toArray⟩, .string ⟨r5.toArray⟩, .string ⟨r6.toArray⟩, .string ⟨r7.toArray⟩, .string ⟨r8.toArray⟩, .string ⟨r9.toArray⟩] y (cutS x2) W (Btw (bc + 1) hi) (hst W hf).1 (hst W hf).2 hn)
  have HRF := Lib.hid (fun W (hf : Fr No W3 W) => fun (g : Nat) (hb : Blk W g 9 #[.string ⟨(cutS x2).toArray⟩]) => rfit_any #[.slice AbC nbC kbC, .slice AbG nbG kbG, .slice AbU nbU kbU, .slice AbA nbA kbA, .string ⟨r0.toArray⟩, .string ⟨r1.toArray⟩, .string ⟨r2.toArray⟩, .string ⟨r3.toArray⟩, .string ⟨r4.toArray⟩, .string ⟨r5.toArray⟩, .string ⟨r6.toArray⟩, .string ⟨r7.toArray⟩, .string ⟨r8.toArray⟩, .string ⟨r9.toArray⟩] y (.slice (some ⟨g, 0, none⟩) 1 1) [cutS x2] W (Btw (bc + 1) hi) (hst W hf).1 (hst W hf).2 (fun k => k = g) (fun k hk => by rw [hk]; exact hb.lt) (one_slS hb hn))
  have HMA := Lib.hid (fun W (hf : Fr No W3 W) => fun (nm : Str) (hnm : nm.length ≤ 40) => may_any #[.slice AbC nbC kbC, .slice AbG nbG kbG, .slice AbU nbU kbU, .slice AbA nbA kbA, .string ⟨r0.toArray⟩, .string ⟨r1.toArray⟩, .string ⟨r2.toArray⟩, .string ⟨r3.toArray⟩, .string ⟨r4.toArray⟩, .string ⟨r5.toArray⟩, .string ⟨r6.toArray⟩, .string ⟨r7.toArray⟩, .string ⟨r8.toArray⟩, .string ⟨r9.toArray⟩] y (cutS x1) nm 1 W (Btw (bc + 1) hi) (hst W hf).1 (hst W hf).2 hnm hu)
  simp only [ok_one] at HRF
  have HC := Lib.hid (fun W (hf : Fr No W3 W) => (RSq.stable stable_qcon).go YC.out (Kept.of_no hf HS3.out) (fun b hb => hb))
  clear hst Y3 YA YC
  obtain ⟨gl, gc, hgr⟩ : ∃ gl gc, groupR y (cutS x2) = (gl, gc) := ⟨_, _, rfl⟩
  obtain ⟨pi, pc, hpk⟩ : ∃ pi pc, pickR y (cutS x1) (cutS x2) = (pi, pc) := ⟨_, _, rfl⟩
  simp only [hgr] at HG HRG
  simp only [hpk] at HP HRP
  have PK := Lib.hid hpk
  clear hgr hpk
  generalize placesR (fun c => matchR (cutS x2) c.1) y.1 = fl at HF HRF
  generalize cutS x1 = user at HG HRG HP HRP HF HRF HMA hu PK ⊢
  generalize cutS x2 = name at HG HRG HP HRP HF HRF HMA hn PK ⊢
  have y0 := B3.out.cell 0
  have y1 := B3.out.cell 1
  have y2 := B3.out.cell 2
  have y3 := B3.out.cell 3
  have y4 := B3.out.cell 4
  have y5 := B3.out.cell 5
  have y6 := B3.out.cell 6
  have y7 := B3.out.cell 7
  have y8 := B3.out.cell 8
  have y9 := B3.out.cell 9
  have y10 := B3.out.cell 10
  have y11 := B3.out.cell 11
  have y12 := B3.out.cell 12
  have y13 := B3.out.cell 13
  simp only [List.getElem?_toArray, List.getElem?_cons_zero, List.getElem?_cons_succ] at y0 y1 y2 y3 y4 y5 y6 y7 y8 y9 y10 y11 y12 y13
  go_wp2_with fail
  refine (HG.out _ (Fr.refl _ _)).mono ?_
  rintro e w4 ⟨u4, rfl, ho, hs⟩
  have hf := hs.1
  clear y0 y1 y2 y3 y4 y5 y6 y7 y8 y9 y10 y11 y12 y13
  have B4 := Lib.hid (B3.out.fr hf (fun h => h))
  have F4 := Lib.hid (F3.out.then_no hf)
  have HRG := Lib.hid (fun W (hf2 : Fr No w4 W) => HRG.out W (hf.then_no hf2))
  have HP := Lib.hid (fun W (hf2 : Fr No w4 W) => HP.out W (hf.then_no hf2))
  have HRP := Lib.hid (fun W (hf2 : Fr No w4 W) => HRP.out W (hf.then_no hf2))
  have HF := Lib.hid (fun W (hf2 : Fr No w4 W) => HF.out W (hf.then_no hf2))
  have HRF := Lib.hid (fun W (hf2 : Fr No w4 W) => HRF.out W (hf.then_no hf2))
  have HMA := Lib.hid (fun W (hf2 : Fr No w4 W) => HMA.out W (hf.then_no hf2))
  have HC := Lib.hid (fun W (hf2 : Fr No w4 W) => HC.out W (hf.then_no hf2))
  have hz4 : W3.heap.size ≤ w4.heap.size := hf.size
  have OG := Lib.hid ho
  clear ho hs
  clear hf B3 F3 HG
  have y0 := B4.out.cell 0
  have y1 := B4.out.cell 1
  have y2 := B4.out.cell 2
  have y3 := B4.out.cell 3
  have y4 := B4.out.cell 4
  have y5 := B4.out.cell 5
  have y6 := B4.out.cell 6
  have y7 := B4.out.cell 7
  have y8 := B4.out.cell 8
  have y9 := B4.out.cell 9
  have y10 := B4.out.cell 10
  have y11 := B4.out.cell 11
  have y12 := B4.out.cell 12
  have y13 := B4.out.cell 13
  simp only [List.getElem?_toArray, List.getElem?_cons_zero, List.getElem?_cons_succ] at y0 y1 y2 y3 y4 y5 y6 y7 y8 y9 y10 y11 y12 y13
  go_wp2_with fail
  refine (HRG.out _ (Fr.refl _ _)).mono ?_
  rintro e w5 ⟨u5, rfl, ho, hs⟩
  have hf := hs.1
  clear y0 y1 y2 y3 y4 y5 y6 y7 y8 y9 y10 y11 y12 y13
  have B5 := Lib.hid (B4.out.fr hf (fun h => h))
  have F5 := Lib.hid (F4.out.then_no hf)
  have HP := Lib.hid (fun W (hf2 : Fr No w5 W) => HP.out W (hf.then_no hf2))
  have HRP := Lib.hid (fun W (hf2 : Fr No w5 W) => HRP.out W (hf.then_no hf2))
  have HF := Lib.hid (fun W (hf2 : Fr No w5 W) => HF.out W (hf.then_no hf2))
  have HRF := Lib.hid (fun W (hf2 : Fr No w5 W) => HRF.out W (hf.then_no hf2))
  have HMA := Lib.hid (fun W (hf2 : Fr No w5 W) => HMA.out W (hf.then_no hf2))
  have HC := Lib.hid (fun W (hf2 : Fr No w5 W) => HC.out W (hf.then_no hf2))
  have hz5 : W3.heap.size ≤ w5.heap.size := Nat.le_trans hz4 hf.size
  have OR := Lib.hid ho
  have OG := Lib.hid (own_fr2 hf OG.out)
  clear ho hs
  clear hf B4 F4 HRG
  have y0 := B5.out.cell 0
  have y1 := B5.out.cell 1
  have y2 := B5.out.cell 2
  have y3 := B5.out.cell 3
  have y4 := B5.out.cell 4
  have y5 := B5.out.cell 5
  have y6 := B5.out.cell 6
  have y7 := B5.out.cell 7
  have y8 := B5.out.cell 8
  have y9 := B5.out.cell 9
  have y10 := B5.out.cell 10
  have y11 := B5.out.cell 11
  have y12 := B5.out.cell 12
  have y13 := B5.out.cell 13
  simp only [List.getElem?_toArray, List.getElem?_cons_zero, List.getElem?_cons_succ] at y0 y1 y2 y3 y4 y5 y6 y7 y8 y9 y10 y11 y12 y13
  go_wp2_with fail
  refine (HP.out _ (Fr.refl _ _)).mono ?_
  rintro e w6 ⟨rfl, hf⟩
  clear y0 y1 y2 y3 y4 y5 y6 y7 y8 y9 y10 y11 y12 y13
  have B6 := Lib.hid (B5.out.fr hf (fun h => h))
  have F6 := Lib.hid (F5.out.then_no hf)
  have HRP := Lib.hid (fun W (hf2 : Fr No w6 W) => HRP.out W (hf.then_no hf2))
  have HF := Lib.hid (fun W (hf2 : Fr No w6 W) => HF.out W (hf.then_no hf2))
  have HRF := Lib.hid (fun W (hf2 : Fr No w6 W) => HRF.out W (hf.then_no hf2))
  have HMA := Lib.hid (fun W (hf2 : Fr No w6 W) => HMA.out W (hf.then_no hf2))
  have HC := Lib.hid (fun W (hf2 : Fr No w6 W) => HC.out W (hf.then_no hf2))
  have hz6 : W3.heap.size ≤ w6.heap.size := Nat.le_trans hz5 hf.size
  have OR := Lib.hid (own_fr2 hf OR.out)
  have OG := Lib.hid (own_fr2 hf OG.out)
  clear hf B5 F5 HP
  have y0 := B6.out.cell 0
  have y1 := B6.out.cell 1
  have y2 := B6.out.cell 2
  have y3 := B6.out.cell 3
  have y4 := B6.out.cell 4
  have y5 := B6.out.cell 5
  have y6 := B6.out.cell 6
  have y7 := B6.out.cell 7
  have y8 := B6.out.cell 8
  have y9 := B6.out.cell 9
  have y10 := B6.out.cell 10
  have y11 := B6.out.cell 11
  have y12 := B6.out.cell 12
  have y13 := B6.out.cell 13
  simp only [List.getElem?_toArray, List.getElem?_cons_zero, List.getElem?_cons_succ] at y0 y1 y2 y3 y4 y5 y6 y7 y8 y9 y10 y11 y12 y13
  go_wp2_with fail
  refine (HRP.out _ (Fr.refl _ _)).mono ?_
  rintro e w7 ⟨rfl, hf⟩
  clear y0 y1 y2 y3 y4 y5 y6 y7 y8 y9 y10 y11 y12 y13
  have B7 := Lib.hid (B6.out.fr hf (fun h => h))
  have F7 := Lib.hid (F6.out.then_no hf)
  have HF := Lib.hid (fun W (hf2 : Fr No w7 W) => HF.out W (hf.then_no hf2))
  have HRF := Lib.hid (fun W (hf2 : Fr No w7 W) => HRF.out W (hf.then_no hf2))
  have HMA := Lib.hid (fun W (hf2 : Fr No w7 W) => HMA.out W (hf.then_no hf2))
  have HC := Lib.hid (fun W (hf2 : Fr No w7 W) => HC.out W (hf.then_no hf2))
  have hz7 : W3.heap.size ≤ w7.heap.size := Nat.le_trans hz6 hf.size
  have OR := Lib.hid (own_fr2 hf OR.out)
  have OG := Lib.hid (own_fr2 hf OG.out)
  clear hf B6 F6 HRP
  have y0 := B7.out.cell 0
  have y1 := B7.out.cell 1
  have y2 := B7.out.cell 2
  have y3 := B7.out.cell 3
  have y4 := B7.out.cell 4
  have y5 := B7.out.cell 5
  have y6 := B7.out.cell 6
  have y7 := B7.out.cell 7
  have y8 := B7.out.cell 8
  have y9 := B7.out.cell 9
  have y10 := B7.out.cell 10
  have y11 := B7.out.cell 11
  have y12 := B7.out.cell 12
  have y13 := B7.out.cell 13
  simp only [List.getElem?_toArray, List.getElem?_cons_zero, List.getElem?_cons_succ] at y0 y1 y2 y3 y4 y5 y6 y7 y8 y9 y10 y11 y12 y13
  have hlb := B7.out.lt
  have HK := Lib.hid (fun (X : World) (hf : Fr No w7 X) => (show X.cell? ⟨bc, 0, none⟩ = some (.slice AbC nbC kbC) ∧ X.cell? ⟨bc, 1, none⟩ = some (.slice AbG nbG kbG) ∧ X.cell? ⟨bc, 2, none⟩ = some (.slice AbU nbU kbU) ∧ X.cell? ⟨bc, 3, none⟩ = some (.slice AbA nbA kbA) ∧ X.cell? ⟨bc, 4, none⟩ = some (.string ⟨r0.toArray⟩) ∧ X.cell? ⟨bc, 5, none⟩ = some (.string ⟨r1.toArray⟩) ∧ X.cell? ⟨bc, 6, none⟩ = some (.string ⟨r2.toArray⟩) ∧ X.cell? ⟨bc, 7, none⟩ = some (.string ⟨r3.toArray⟩) ∧ X.cell? ⟨bc, 8, none⟩ = some (.string ⟨r4.toArray⟩) ∧ X.cell? ⟨bc, 9, none⟩ = some (.string ⟨r5.toArray⟩) ∧ X.cell? ⟨bc, 10, none⟩ = some (.string ⟨r6.toArray⟩) ∧ X.cell? ⟨bc, 11, none⟩ = some (.string ⟨r7.toArray⟩) ∧ X.cell? ⟨bc, 12, none⟩ = some (.string ⟨r8.toArray⟩) ∧ X.cell? ⟨bc, 13, none⟩ = some (.string ⟨r9.toArray⟩) from ⟨(hf.cell (p := ⟨bc, 0, none⟩) hlb (fun h => h)).trans y0, (hf.cell (p := ⟨bc, 1, none⟩) hlb (fun h => h)).trans y1, (hf.cell (p := ⟨bc, 2, none⟩) hlb (fun h => h)).trans y2, (hf.cell (p := ⟨bc, 3, none⟩) hlb (fun h => h)).trans y3, (hf.cell (p := ⟨bc, 4, none⟩) hlb (fun h => h)).trans y4, (hf.cell (p := ⟨bc, 5, none⟩) hlb (fun h => h)).trans y5, (hf.cell (p := ⟨bc, 6, none⟩) hlb (fun h => h)).trans y6, (hf.cell (p := ⟨bc, 7, none⟩) hlb (fun h => h)).trans y7, (hf.cell (p := ⟨bc, 8, none⟩) hlb (fun h => h)).trans y8, (hf.cell (p := ⟨bc, 9, none⟩) hlb (fun h => h)).trans y9, (hf.cell (p := ⟨bc, 10, none⟩) hlb (fun h => h)).trans y10, (hf.cell (p := ⟨bc, 11, none⟩) hlb (fun h => h)).trans y11, (hf.cell (p := ⟨bc, 12, none⟩) hlb (fun h => h)).trans y12, (hf.cell (p := ⟨bc, 13, none⟩) hlb (fun h => h)).trans y13⟩))
  go_wp2_with fail
  go_region_held3 (fun X => X.cell? ⟨bc, 0, none⟩ = some (.slice AbC nbC kbC) ∧ X.cell? ⟨bc, 1, none⟩ = some (.slice AbG nbG kbG) ∧ X.cell? ⟨bc, 2, none⟩ = some (.slice AbU nbU kbU) ∧ X.cell? ⟨bc, 3, none⟩ = some (.slice AbA nbA kbA) ∧ X.cell? ⟨bc, 4, none⟩ = some (.string ⟨r0.toArray⟩) ∧ X.cell? ⟨bc, 5, none⟩ = some (.string ⟨r1.toArray⟩) ∧ X.cell? ⟨bc, 6, none⟩ = some (.string ⟨r2.toArray⟩) ∧ X.cell? ⟨bc, 7, none⟩ = some (.string ⟨r3.toArray⟩) ∧ X.cell? ⟨bc, 8, none⟩ = some (.string ⟨r4.toArray⟩) ∧ X.cell? ⟨bc, 9, none⟩ = some (.string ⟨r5.toArray⟩) ∧ X.cell? ⟨bc, 10, none⟩ = some (.string ⟨r6.toArray⟩) ∧ X.cell? ⟨bc, 11, none⟩ = some (.string ⟨r7.toArray⟩) ∧ X.cell? ⟨bc, 12, none⟩ = some (.string ⟨r8.toArray⟩) ∧ X.cell? ⟨bc, 13, none⟩ = some (.string ⟨r9.toArray⟩)) ((refine HK.out _ ?_; repeat' (first | with_reducible assumption | with_reducible exact Fr.refl _ _ | with_reducible refine Fr.drew ?_ | with_reducible refine Fr.alloc ?_ _))) (first | (go_at_call 11; with_reducible refine (same_yes _ _ gl _ (own_fr2 (by repeat' (first | with_reducible assumption | with_reducible exact Fr.refl _ _ | with_reducible refine Fr.drew ?_ | with_reducible refine Fr.alloc ?_ _)) OG.out) (own_fr2 (by repeat' (first | with_reducible assumption | with_reducible exact Fr.refl _ _ | with_reducible refine Fr.drew ?_ | with_reducible refine Fr.alloc ?_ _)) OR.out)).mono ?_; rintro e w8 ⟨rfl, hf⟩; have hf8 : Fr No w7 w8 := (Fr.then_no (by repeat' (first | with_reducible assumption | with_reducible exact Fr.refl _ _ | with_reducible refine Fr.drew ?_ | with_reducible refine Fr.alloc ?_ _)) hf); clear hf) | (go_at_call 21; refine (HF.out _ (by repeat' (first | with_reducible assumption | with_reducible exact Fr.refl _ _ | with_reducible refine Fr.drew ?_ | with_reducible refine Fr.alloc ?_ _))).mono ?_; rintro e w9 ⟨u9, rfl, ho, hs⟩; have hf := hs.1; have hf9 : Fr No w7 w9 := (Fr.then_no (by repeat' (first | with_reducible assumption | with_reducible exact Fr.refl _ _ | with_reducible refine Fr.drew ?_ | with_reducible refine Fr.alloc ?_ _)) hf); have O9 := Lib.hid ho; have HPREV := Lib.hid hf; clear ho hs; clear hf) | (go_at_call 22; refine (HRF.out _ (by repeat' (first | with_reducible assumption | with_reducible exact Fr.refl _ _ | with_reducible refine Fr.drew ?_ | with_reducible refine Fr.alloc ?_ _)) _ (by first | exact Blk.new _ _ _ | exact (Blk.new _ _ _).fr HPREV.out (fun h => h))).mono ?_; rintro e w10 ⟨u10, rfl, ho, hs⟩; have hf := hs.1; have hf10 : Fr No w7 w10 := (Fr.then_no (by repeat' (first | with_reducible assumption | with_reducible exact Fr.refl _ _ | with_reducible refine Fr.drew ?_ | with_reducible refine Fr.alloc ?_ _)) hf); have O10 := Lib.hid ho; have P9 := Lib.hid (own_fr2 (Fr.then_no (w1 := _) (by repeat' (first | with_reducible assumption | with_reducible exact Fr.refl _ _ | with_reducible refine Fr.drew ?_ | with_reducible refine Fr.alloc ?_ _)) hf) O9.out); clear ho hs; clear hf) | (go_at_call 11; with_reducible refine (same_yes _ _ fl _ (own_fr2 (by repeat' (first | with_reducible assumption | with_reducible exact Fr.refl _ _ | with_reducible refine Fr.drew ?_ | with_reducible refine Fr.alloc ?_ _)) P9.out) (own_fr2 (by repeat' (first | with_reducible assumption | with_reducible exact Fr.refl _ _ | with_reducible refine Fr.drew ?_ | with_reducible refine Fr.alloc ?_ _)) O10.out)).mono ?_; rintro e w11 ⟨rfl, hf⟩; have hf11 : Fr No w7 w11 := (Fr.then_no (by repeat' (first | with_reducible assumption | with_reducible exact Fr.refl _ _ | with_reducible refine Fr.drew ?_ | with_reducible refine Fr.alloc ?_ _)) hf); clear hf))
  all_goals
    clear y0 y1 y2 y3 y4 y5 y6 y7 y8 y9 y10 y11 y12 y13
    obtain ⟨y0, y1, y2, y3, y4, y5, y6, y7, y8, y9, y10, y11, y12, y13⟩ := HK.out _ hf11
    by_cases hp0 : pc = 0
    · subst hp0
      obtain ⟨k, hk, hki, hlv⟩ := pick_yes PK.out
      subst hki
      have hc := HC.out _ hf11
      rw [← hnC] at hc
      obtain ⟨ad, ecs, hA, hs, hl, hcell, hr⟩ := RSl.at_ hc.1 hk
      obtain ⟨hl1, ⟨hr1, hr40⟩, -⟩ := hr
      have n0 : w11.cell? (ad.add (k * 10)) = some (.string ⟨y.1[k].1.toArray⟩) := by
        have h0 := hcell 0 (by omega)
        rw [add_zero] at h0
        rw [h0]
        have h1 : ecs[0]? = (ecs.take 1)[0]? := by simp
        rw [h1, hr1]
        rfl
      have hab : (ad.add (k * 10)).block < w11.heap.size := by
        rw [block_add]
        have := HS3.out _ hs
        have h1 := hs.2
        exact Nat.lt_of_lt_of_le (Nat.lt_of_lt_of_le h1 hlt3.2) (by have := hf11.size; omega)
      subst hA
      have hk' : k < nbC := by rw [← hnC]; exact hk
      have hk0 : (0 : Int) ≤ (k : Int) := by omega
      have hk1 : (k : Int) < (nbC : Int) := by omega
      have HM := Lib.hid (fun W (hf : Fr No w7 W) => (show Calls Try.prog _ _ _ (fun e w' => e = .returned (.bool true) ∧ Fr No W w') from by have h := HMA.out W hf y.1[k].1 hr40; rw [decide_eq_true hlv] at h; exact h))
      have HK2 := Lib.hid (fun (X : World) (hf : Fr No w11 X) => (show (X.cell? ⟨bc, 0, none⟩ = some (.slice (some ad) nbC kbC) ∧ X.cell? ⟨bc, 1, none⟩ = some (.slice AbG nbG kbG) ∧ X.cell? ⟨bc, 2, none⟩ = some (.slice AbU nbU kbU) ∧ X.cell? ⟨bc, 3, none⟩ = some (.slice AbA nbA kbA) ∧ X.cell? ⟨bc, 4, none⟩ = some (.string ⟨r0.toArray⟩) ∧ X.cell? ⟨bc, 5, none⟩ = some (.string ⟨r1.toArray⟩) ∧ X.cell? ⟨bc, 6, none⟩ = some (.string ⟨r2.toArray⟩) ∧ X.cell? ⟨bc, 7, none⟩ = some (.string ⟨r3.toArray⟩) ∧ X.cell? ⟨bc, 8, none⟩ = some (.string ⟨r4.toArray⟩) ∧ X.cell? ⟨bc, 9, none⟩ = some (.string ⟨r5.toArray⟩) ∧ X.cell? ⟨bc, 10, none⟩ = some (.string ⟨r6.toArray⟩) ∧ X.cell? ⟨bc, 11, none⟩ = some (.string ⟨r7.toArray⟩) ∧ X.cell? ⟨bc, 12, none⟩ = some (.string ⟨r8.toArray⟩) ∧ X.cell? ⟨bc, 13, none⟩ = some (.string ⟨r9.toArray⟩)) ∧ X.cell? (ad.add (k * 10)) = some (.string ⟨y.1[k].1.toArray⟩) from ⟨HK.out X (hf11.then_no hf), (hf.cell (p := ad.add (k * 10)) hab (fun h => h)).trans n0⟩))
      generalize y.1[k].1 = nm at HM HK2 n0
      clear hc hs hl hcell hl1 hr1 hr40 hlv
      go_wp2_with fail
      go_region_held3 (fun X => (X.cell? ⟨bc, 0, none⟩ = some (.slice (some ad) nbC kbC) ∧ X.cell? ⟨bc, 1, none⟩ = some (.slice AbG nbG kbG) ∧ X.cell? ⟨bc, 2, none⟩ = some (.slice AbU nbU kbU) ∧ X.cell? ⟨bc, 3, none⟩ = some (.slice AbA nbA kbA) ∧ X.cell? ⟨bc, 4, none⟩ = some (.string ⟨r0.toArray⟩) ∧ X.cell? ⟨bc, 5, none⟩ = some (.string ⟨r1.toArray⟩) ∧ X.cell? ⟨bc, 6, none⟩ = some (.string ⟨r2.toArray⟩) ∧ X.cell? ⟨bc, 7, none⟩ = some (.string ⟨r3.toArray⟩) ∧ X.cell? ⟨bc, 8, none⟩ = some (.string ⟨r4.toArray⟩) ∧ X.cell? ⟨bc, 9, none⟩ = some (.string ⟨r5.toArray⟩) ∧ X.cell? ⟨bc, 10, none⟩ = some (.string ⟨r6.toArray⟩) ∧ X.cell? ⟨bc, 11, none⟩ = some (.string ⟨r7.toArray⟩) ∧ X.cell? ⟨bc, 12, none⟩ = some (.string ⟨r8.toArray⟩) ∧ X.cell? ⟨bc, 13, none⟩ = some (.string ⟨r9.toArray⟩)) ∧ X.cell? (ad.add (k * 10)) = some (.string ⟨nm.toArray⟩)) ((refine HK2.out _ ?_; repeat' (first | with_reducible assumption | with_reducible exact Fr.refl _ _ | with_reducible refine Fr.drew ?_ | with_reducible refine Fr.alloc ?_ _))) (first | (go_at_call 10; refine (HM.out _ (by repeat' (first | with_reducible assumption | with_reducible exact Fr.refl _ _ | with_reducible refine Fr.drew ?_ | with_reducible refine Fr.alloc ?_ _))).mono ?_; rintro e w12 ⟨rfl, hf⟩; have hf12 : Fr No w7 w12 := (Fr.then_no (by repeat' (first | with_reducible assumption | with_reducible exact Fr.refl _ _ | with_reducible refine Fr.drew ?_ | with_reducible refine Fr.alloc ?_ _)) hf); have hf12' : Fr No w11 w12 := (Fr.then_no (by repeat' (first | with_reducible assumption | with_reducible exact Fr.refl _ _ | with_reducible refine Fr.drew ?_ | with_reducible refine Fr.alloc ?_ _)) hf); clear hf) | (go_at_call 16; refine (works_any _).mono ?_; rintro e w13 ⟨rfl, hf⟩; have hf13 : Fr No w7 w13 := (Fr.then_no (by repeat' (first | with_reducible assumption | with_reducible exact Fr.refl _ _ | with_reducible refine Fr.drew ?_ | with_reducible refine Fr.alloc ?_ _)) hf); have hf13' : Fr No w11 w13 := (Fr.then_no (by repeat' (first | with_reducible assumption | with_reducible exact Fr.refl _ _ | with_reducible refine Fr.drew ?_ | with_reducible refine Fr.alloc ?_ _)) hf); clear hf))
      all_goals
        go_wp2_with fail
        go_ret
        exact ⟨rfl, F7.out.then_no hf13⟩
    · have hpb : (pc != 0) = true := by simpa using hp0
      obtain rfl := pick_no PK.out hp0
      go_wp2_with fail
      refine (works_any _).mono ?_
      rintro e w12 ⟨rfl, hf⟩
      have F12 := Lib.hid ((F7.out.then_no hf11).then_no hf)
      clear hf
      go_wp2_with fail
      go_ret
      exact ⟨rfl, F12.out⟩
end Conf
end Go.Proofs.Ytompphakagoaeaa
