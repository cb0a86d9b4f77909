/- The gate's laws: the walk of GateKeeps. Printed by gen_gateh.py. -/
import Derived.Test.YtllnaflknnkgiaaGateF
import Derived.Test.YtllnaflknnkgiaaFew
import Derived.BigQuiet
import Derived.Deep.CutRange
import Derived.Deep.RegionHeld3
namespace Go.Proofs.Ytllnaflknnkgiaa
open Go.RowKit
set_option linter.unusedVariables false
set_option linter.unusedSimpArgs false
namespace Gate
open Conf
/-- What GateKeeps holds of a gate. -/
def KS (n st : Int) (u : Str) (f fl : Int) (inn : Str) (sh : Bool) : Prop := st = 2 ∨ (st = 0 ∧ sh = false ∧ fl = f ∧ f < n) ∨ (st = 1 ∧ sh = false ∧ fl < n ∧ inn = u)
set_option maxRecDepth 100000 in
set_option maxHeartbeats 4000000 in
theorem walk_GateKeeps (W : World) (c0 : Array Value) (x : C) (h0 : RConf W (Ahead W.heap.size) c0.toList x) (v1 : Value) (tr : Int) (h1 : (RInt .u8) W (Ahead W.heap.size) [v1] tr) (v2 : Value) (l : List Tr) (h4 : (RSl 4 RTr) W (Ahead W.heap.size) [v2] l) :
    Calls Try.prog 4 #[.agg c0, v1, v2] W fun e w' => e = .returned (.bool true) ∧ Fr No W w' := by
  obtain ⟨h1a, h1b⟩ := h1
  injection h1a with h1a _
  subst h1a
  have h1c : 0 ≤ tr ∧ tr ≤ 255 := by simpa [Lit.wf, IntKind.min, IntKind.max, IntKind.signed, IntKind.bits] using h1b
  have H4 := Lib.hid h4
  obtain ⟨AL, kL, rfl, hl1, hl2⟩ := h4.slice
  unfold maxLen at hl2
  obtain ⟨AaC, AaG, AaU, AaA, naC, kaC, naG, kaG, naU, kaU, naA, kaA, s0, s1, s2, s3, s4, s5, s6, s7, s8, s9, hc0⟩ := conf_cells h0
  rw [hc0] at h0 ⊢
  have H0 := Lib.hid h0
  clear hc0 h0 h4
  have F1 := Lib.hid ((Fr.refl No W).alloc (.cells #[.slice AaC naC kaC, .slice AaG naG kaG, .slice AaU naU kaU, .slice AaA naA kaA, .string ⟨s0.toArray⟩, .string ⟨s1.toArray⟩, .string ⟨s2.toArray⟩, .string ⟨s3.toArray⟩, .string ⟨s4.toArray⟩, .string ⟨s5.toArray⟩, .string ⟨s6.toArray⟩, .string ⟨s7.toArray⟩, .string ⟨s8.toArray⟩, .string ⟨s9.toArray⟩] 28))
  have B1 := Lib.hid (Blk.new W 28 #[.slice AaC naC kaC, .slice AaG naG kaG, .slice AaU naU kaU, .slice AaA naA kaA, .string ⟨s0.toArray⟩, .string ⟨s1.toArray⟩, .string ⟨s2.toArray⟩, .string ⟨s3.toArray⟩, .string ⟨s4.toArray⟩, .string ⟨s5.toArray⟩, .string ⟨s6.toArray⟩, .string ⟨s7.toArray⟩, .string ⟨s8.toArray⟩, .string ⟨s9.toArray⟩])
  by_cases b0 : 30 < l.length
  · go_enter Try.func4, Try.ntmps4
    go_wp2_with (go_at_call 13; refine (works_any _).mono ?_; rintro e w9 ⟨rfl, hf9⟩; have Hf9 := Lib.hid hf9; clear hf9)
    go_ret
    exact ⟨rfl, F1.out.then_no Hf9.out⟩
  go_enter Try.func4, Try.ntmps4
  go_wp2_with fail
  refine (few_any #[.slice AaC naC kaC, .slice AaG naG kaG, .slice AaU naU kaU, .slice AaA naA kaA, .string ⟨s0.toArray⟩, .string ⟨s1.toArray⟩, .string ⟨s2.toArray⟩, .string ⟨s3.toArray⟩, .string ⟨s4.toArray⟩, .string ⟨s5.toArray⟩, .string ⟨s6.toArray⟩, .string ⟨s7.toArray⟩, .string ⟨s8.toArray⟩, .string ⟨s9.toArray⟩] x _ (Ahead W.heap.size) (fun k hk => Nat.lt_of_lt_of_le hk F1.out.size) (Conf.stable.go H0.out (Kept.of_no F1.out fun k hk => hk) fun b hb => hb)).mono ?_
  intro e w2 hp
  obtain ⟨cs, y, rfl, hy, hf2⟩ := hp
  obtain ⟨AbC, AbG, AbU, AbA, nbC, kbC, nbG, kbG, nbU, kbU, nbA, kbA, r0, r1, r2, r3, r4, r5, r6, r7, r8, r9, hcs⟩ := conf_cells hy
  subst hcs
  have hb2 := B1.out.fr hf2 (fun h => h)
  have c0 := hb2.cell 0
  have c1 := hb2.cell 1
  have c2 := hb2.cell 2
  have c3 := hb2.cell 3
  have c4 := hb2.cell 4
  have c5 := hb2.cell 5
  have c6 := hb2.cell 6
  have c7 := hb2.cell 7
  have c8 := hb2.cell 8
  have c9 := hb2.cell 9
  have c10 := hb2.cell 10
  have c11 := hb2.cell 11
  have c12 := hb2.cell 12
  have c13 := hb2.cell 13
  have z0 := hb2.frozen 0
  have z1 := hb2.frozen 1
  have z2 := hb2.frozen 2
  have z3 := hb2.frozen 3
  have z4 := hb2.frozen 4
  have z5 := hb2.frozen 5
  have z6 := hb2.frozen 6
  have z7 := hb2.frozen 7
  have z8 := hb2.frozen 8
  have z9 := hb2.frozen 9
  have z10 := hb2.frozen 10
  have z11 := hb2.frozen 11
  have z12 := hb2.frozen 12
  have z13 := hb2.frozen 13
  simp only [List.getElem?_toArray, List.getElem?_cons_zero, List.getElem?_cons_succ] at c0 c1 c2 c3 c4 c5 c6 c7 c8 c9 c10 c11 c12 c13
  have B2 := Lib.hid hb2
  have F2 := Lib.hid (F1.out.then_no hf2)
  have hs2 := hf2.size
  have S1 := Lib.hid (size_alloc W (.cells #[.slice AaC naC kaC, .slice AaG naG kaG, .slice AaU naU kaU, .slice AaA naA kaA, .string ⟨s0.toArray⟩, .string ⟨s1.toArray⟩, .string ⟨s2.toArray⟩, .string ⟨s3.toArray⟩, .string ⟨s4.toArray⟩, .string ⟨s5.toArray⟩, .string ⟨s6.toArray⟩, .string ⟨s7.toArray⟩, .string ⟨s8.toArray⟩, .string ⟨s9.toArray⟩] 28))
  have HY := Lib.hid hy
  clear hb2 hf2 hy
  obtain ⟨bc, hbc⟩ : ∃ bc, W.heap.size = bc := ⟨_, rfl⟩
  rw [hbc] at B2 c0 z0 c1 z1 c2 z2 c3 z3 c4 z4 c5 z5 c6 z6 c7 z7 c8 z8 c9 z9 c10 z10 c11 z11 c12 z12 c13 z13 ⊢
  rw [hbc] at S1
  have Hbc := Lib.hid hbc
  clear hbc
  go_wp2_with fail
  have b3 := ((((((((((((((B2.out.put 0 (.slice AbC nbC kbC)).put 1 (.slice AbG nbG kbG)).put 2 (.slice AbU nbU kbU)).put 3 (.slice AbA nbA kbA)).put 4 (.string ⟨r0.toArray⟩)).put 5 (.string ⟨r1.toArray⟩)).put 6 (.string ⟨r2.toArray⟩)).put 7 (.string ⟨r3.toArray⟩)).put 8 (.string ⟨r4.toArray⟩)).put 9 (.string ⟨r5.toArray⟩)).put 10 (.string ⟨r6.toArray⟩)).put 11 (.string ⟨r7.toArray⟩)).put 12 (.string ⟨r8.toArray⟩)).put 13 (.string ⟨r9.toArray⟩))
  simp at b3
  have f3 : Fr (Just bc) w2 _ := (((((((((((((((Fr.refl (Just bc) w2).setCell (p := ⟨bc, 0, none⟩) (.inl rfl) (.slice AbC nbC kbC)).setCell (p := ⟨bc, 1, none⟩) (.inl rfl) (.slice AbG nbG kbG)).setCell (p := ⟨bc, 2, none⟩) (.inl rfl) (.slice AbU nbU kbU)).setCell (p := ⟨bc, 3, none⟩) (.inl rfl) (.slice AbA nbA kbA)).setCell (p := ⟨bc, 4, none⟩) (.inl rfl) (.string ⟨r0.toArray⟩)).setCell (p := ⟨bc, 5, none⟩) (.inl rfl) (.string ⟨r1.toArray⟩)).setCell (p := ⟨bc, 6, none⟩) (.inl rfl) (.string ⟨r2.toArray⟩)).setCell (p := ⟨bc, 7, none⟩) (.inl rfl) (.string ⟨r3.toArray⟩)).setCell (p := ⟨bc, 8, none⟩) (.inl rfl) (.string ⟨r4.toArray⟩)).setCell (p := ⟨bc, 9, none⟩) (.inl rfl) (.string ⟨r5.toArray⟩)).setCell (p := ⟨bc, 10, none⟩) (.inl rfl) (.string ⟨r6.toArray⟩)).setCell (p := ⟨bc, 11, none⟩) (.inl rfl) (.string ⟨r7.toArray⟩)).setCell (p := ⟨bc, 12, none⟩) (.inl rfl) (.string ⟨r8.toArray⟩)).setCell (p := ⟨bc, 13, none⟩) (.inl rfl) (.string ⟨r9.toArray⟩))
  generalize ((((((((((((((w2.setCell ⟨bc, 0, none⟩ (.slice AbC nbC kbC)).setCell ⟨bc, 1, none⟩ (.slice AbG nbG kbG)).setCell ⟨bc, 2, none⟩ (.slice AbU nbU kbU)).setCell ⟨bc, 3, none⟩ (.slice AbA nbA kbA)).setCell ⟨bc, 4, none⟩ (.string ⟨r0.toArray⟩)).setCell ⟨bc, 5, none⟩ (.string ⟨r1.toArray⟩)).setCell ⟨bc, 6, none⟩ (.string ⟨r2.toArray⟩)).setCell ⟨bc, 7, none⟩ (.string ⟨r3.toArray⟩)).setCell ⟨bc, 8, none⟩ (.string ⟨r4.toArray⟩)).setCell ⟨bc, 9, none⟩ (.string ⟨r5.toArray⟩)).setCell ⟨bc, 10, none⟩ (.string ⟨r6.toArray⟩)).setCell ⟨bc, 11, none⟩ (.string ⟨r7.toArray⟩)).setCell ⟨bc, 12, none⟩ (.string ⟨r8.toArray⟩)).setCell ⟨bc, 13, none⟩ (.string ⟨r9.toArray⟩)) = W3 at b3 f3 ⊢
  clear c0 z0 c1 z1 c2 z2 c3 z3 c4 z4 c5 z5 c6 z6 c7 z7 c8 z8 c9 z9 c10 z10 c11 z11 c12 z12 c13 z13
  have B3 := Lib.hid b3
  have F3 := Lib.hid (F2.out.trans f3 fun k hk hl => by have hk : k = bc := hk; have := Hbc.out; omega)
  have hs3 := f3.size
  obtain ⟨hi, hhi⟩ : ∃ hi, hi = w2.heap.size := ⟨_, rfl⟩
  have hlt3 : bc + 1 ≤ hi ∧ hi ≤ W3.heap.size := by have := B2.out.lt; omega
  have Y3 := Lib.hid (Conf.stable.go HY.out (S' := Btw (bc + 1) hi) (Kept.of_fr f3 fun b hb => ⟨hb.2, fun e => by have e : b = bc := e; have := hb.1; have := S1.out; omega⟩) fun b hb => ⟨by have := hb.1; have := S1.out; omega, by have := hb.2; omega⟩)
  clear b3 f3 HY B2 F2 S1 hhi hs2 hs3
  obtain ⟨n, hn⟩ : ∃ n, n = tr % 9 + 1 := ⟨_, rfl⟩
  rw [← hn]
  have hn1 : 1 ≤ n ∧ n ≤ 9 := by omega
  clear hn
  have hnz : newR n 100 0 = 0 := by unfold newR; rw [if_neg (by omega), if_neg (by omega), if_neg (by omega)]
  refine (new_any n 100 0 _ (by omega)).mono ?_
  intro e w4 hp
  obtain ⟨g, rfl, hg, hf4, hn4⟩ := hp.yes hnz
  have hig : hi ≤ g := by have := hn4.1; omega
  obtain ⟨un, hun⟩ : ∃ un, un = (0 : Int) + 100 := ⟨_, rfl⟩
  rw [← hun] at hg
  clear hun
  have hB4 := B3.out.fr hf4 (fun h => h)
  have hY4 := Conf.stable.go Y3.out (Kept.of_no hf4 fun b hb => Nat.lt_of_lt_of_le hb.2 hlt3.2) fun b hb => hb
  have I5 := Lib.hid (show KInv W w4 g bc hi n 100 0 [] 0 un #[.slice AbC nbC kbC, .slice AbG nbG kbG, .slice AbU nbU kbU, .slice AbA nbA kbA, .string ⟨r0.toArray⟩, .string ⟨r1.toArray⟩, .string ⟨r2.toArray⟩, .string ⟨r3.toArray⟩, .string ⟨r4.toArray⟩, .string ⟨r5.toArray⟩, .string ⟨r6.toArray⟩, .string ⟨r7.toArray⟩, .string ⟨r8.toArray⟩, .string ⟨r9.toArray⟩] y from ⟨hg, hB4, hY4, F3.out.then_no hf4⟩)
  clear hp hf4 hn4 hg hB4 hY4 hnz B3 Y3 F3 F1 B1 H0
  go_wp2_with fail
  go_loopw [10, 11, 12, 13] (fun a b c iv wr => ∃ (k : Nat), iv = .int .i64 k ∧ k ≤ l.length ∧ ∃ (st : Int) (u : Str) (f : Int) (fl : Int) (inn : Str) (sh : Bool), a = .string ⟨inn.toArray⟩ ∧ b = .bool sh ∧ c = .int .i64 fl ∧ (0 ≤ f ∧ f ≤ k) ∧ (0 ≤ fl ∧ fl ≤ k) ∧ u.length ≤ 60 ∧ Hid (KS n st u f fl inn sh) ∧ Hid (KInv W wr g bc hi n 100 st u f un #[.slice AbC nbC kbC, .slice AbG nbG kbG, .slice AbU nbU kbU, .slice AbA nbA kbA, .string ⟨r0.toArray⟩, .string ⟨r1.toArray⟩, .string ⟨r2.toArray⟩, .string ⟨r3.toArray⟩, .string ⟨r4.toArray⟩, .string ⟨r5.toArray⟩, .string ⟨r6.toArray⟩, .string ⟨r7.toArray⟩, .string ⟨r8.toArray⟩, .string ⟨r9.toArray⟩] y)) (fun _ _ _ i _ => l.length - (intOf i).toNat)
  case atStart => exact ⟨0, rfl, by omega, 0, [], 0, 0, [], false, rfl, rfl, rfl, by omega, by omega, by simp, Lib.hid (.inr (.inl ⟨rfl, rfl, rfl, by omega⟩)), I5.out⟩
  case round =>
    clear I5
    obtain ⟨k, rfl, hk, st, u, f, fl, inn, sh, rfl, rfl, rfl, hf, hfl, hu, HK, I⟩ := hrel
    by_cases hlt : k < l.length
    · obtain ⟨ad, rfl, hla, q0, q1, q2, q3, hw3⟩ := try_at H4.out I.out.fr (fun k hk => hk) hlt
      obtain ⟨x, hx⟩ : ∃ x, x = l[k] := ⟨_, rfl⟩
      obtain ⟨us, pw, lt, tn⟩ := x
      rw [← hx] at q0 q1 q2 q3 hw3
      simp only at q0 q1 q2 q3 hw3
      have hw3 := wf64 hw3
      clear hx
      by_cases h60 : 60 < us.length
      · go_wp2_with fail
        go_roundw
        case rel => exact ⟨k + 1, by go_num, by omega, st, u, f, fl, inn, sh, rfl, rfl, rfl, by omega, by omega, hu, HK, I⟩
        case measure => simp [intOf]; omega
      · go_upto_if 50 with (fail)
        go_cut [10, 11, 12, 14, 15] from 33 to 132 (fun a b c _ _ wx => ∃ (st : Int) (u : Str) (f : Int) (fl : Int) (inn : Str) (sh : Bool), a = .string ⟨inn.toArray⟩ ∧ b = .bool sh ∧ c = .int .i64 fl ∧ (0 ≤ f ∧ f ≤ k + 1) ∧ (0 ≤ fl ∧ fl ≤ k + 1) ∧ u.length ≤ 60 ∧ Hid (KS n st u f fl inn sh) ∧ Hid (KInv W wx g bc hi n 100 st u f un #[.slice AbC nbC kbC, .slice AbG nbG kbG, .slice AbU nbU kbU, .slice AbA nbA kbA, .string ⟨r0.toArray⟩, .string ⟨r1.toArray⟩, .string ⟨r2.toArray⟩, .string ⟨r3.toArray⟩, .string ⟨r4.toArray⟩, .string ⟨r5.toArray⟩, .string ⟨r6.toArray⟩, .string ⟨r7.toArray⟩, .string ⟨r8.toArray⟩, .string ⟨r9.toArray⟩] y))
        case first =>
          cases lt with
          | true =>
            by_cases hl2 : lateS st un tn = true
            · have hlt2 : lateT st un tn = 2 := lateT_yes hl2
              go_wp2_with (go_at_call 18; refine (late_any I.out.g (by omega) tn).mono ?_; rintro e w10 ⟨he, hg10, hf10⟩; rw [hl2] at he; rw [hlt2] at hg10; subst he; have G10 := Lib.hid hg10; have J10 := Lib.hid hf10; clear hg10 hf10)
              go_meet
              case rel => exact ⟨2, u, f, fl, inn, true, rfl, rfl, rfl, by omega, by omega, hu, Lib.hid (.inl rfl), I.out.next J10.out Hbc.out (by omega) hig G10.out⟩
            · have hl2 : lateS st un tn = false := by simpa using hl2
              have hlt2 : lateT st un tn = st := lateT_no hl2
              go_wp2_with (go_at_call 18; refine (late_any I.out.g (by omega) tn).mono ?_; rintro e w10 ⟨he, hg10, hf10⟩; rw [hl2] at he; rw [hlt2] at hg10; subst he; have G10 := Lib.hid hg10; have J10 := Lib.hid hf10; clear hg10 hf10)
              go_meet
              case rel => exact ⟨st, u, f, fl, inn, sh, rfl, rfl, rfl, by omega, by omega, hu, HK, I.out.next J10.out Hbc.out (by omega) hig G10.out⟩
          | false =>
            have hlw : (ad.add (k * 4)).block < wr.heap.size := Nat.lt_of_lt_of_le hla I.out.fr.size
            have hIc := I.out.c
            have c0 := hIc.cell 0
            have c1 := hIc.cell 1
            have c2 := hIc.cell 2
            have c3 := hIc.cell 3
            have c4 := hIc.cell 4
            have c5 := hIc.cell 5
            have c6 := hIc.cell 6
            have c7 := hIc.cell 7
            have c8 := hIc.cell 8
            have c9 := hIc.cell 9
            have c10 := hIc.cell 10
            have c11 := hIc.cell 11
            have c12 := hIc.cell 12
            have c13 := hIc.cell 13
            simp only [List.getElem?_toArray, List.getElem?_cons_zero, List.getElem?_cons_succ] at c0 c1 c2 c3 c4 c5 c6 c7 c8 c9 c10 c11 c12 c13
            clear hIc
            have hlc := I.out.c.lt
            have hlg := I.out.g.lt
            have ngc : ¬ Just g bc := fun e => by have e : bc = g := e; omega
            have nga : ¬ Just g (ad.add (k * 4)).block := fun e => by have e : (ad.add (k * 4)).block = g := e; have := Hbc.out; omega
            have HS := Lib.hid (fun X (hX : Fr (Just g) wr X) => (show X.cell? ⟨bc, 0, none⟩ = some (.slice AbC nbC kbC) ∧ X.cell? ⟨bc, 1, none⟩ = some (.slice AbG nbG kbG) ∧ X.cell? ⟨bc, 2, none⟩ = some (.slice AbU nbU kbU) ∧ X.cell? ⟨bc, 3, none⟩ = some (.slice AbA nbA kbA) ∧ X.cell? ⟨bc, 4, none⟩ = some (.string ⟨r0.toArray⟩) ∧ X.cell? ⟨bc, 5, none⟩ = some (.string ⟨r1.toArray⟩) ∧ X.cell? ⟨bc, 6, none⟩ = some (.string ⟨r2.toArray⟩) ∧ X.cell? ⟨bc, 7, none⟩ = some (.string ⟨r3.toArray⟩) ∧ X.cell? ⟨bc, 8, none⟩ = some (.string ⟨r4.toArray⟩) ∧ X.cell? ⟨bc, 9, none⟩ = some (.string ⟨r5.toArray⟩) ∧ X.cell? ⟨bc, 10, none⟩ = some (.string ⟨r6.toArray⟩) ∧ X.cell? ⟨bc, 11, none⟩ = some (.string ⟨r7.toArray⟩) ∧ X.cell? ⟨bc, 12, none⟩ = some (.string ⟨r8.toArray⟩) ∧ X.cell? ⟨bc, 13, none⟩ = some (.string ⟨r9.toArray⟩) ∧ X.cell? (ad.add (k * 4)) = some (.string ⟨us.toArray⟩) ∧ X.cell? ⟨(ad.add (k * 4)).block, (ad.add (k * 4)).off + 1, none⟩ = some (.string ⟨pw.toArray⟩) from ⟨(hX.cell (p := ⟨bc, 0, none⟩) hlc ngc).trans c0, (hX.cell (p := ⟨bc, 1, none⟩) hlc ngc).trans c1, (hX.cell (p := ⟨bc, 2, none⟩) hlc ngc).trans c2, (hX.cell (p := ⟨bc, 3, none⟩) hlc ngc).trans c3, (hX.cell (p := ⟨bc, 4, none⟩) hlc ngc).trans c4, (hX.cell (p := ⟨bc, 5, none⟩) hlc ngc).trans c5, (hX.cell (p := ⟨bc, 6, none⟩) hlc ngc).trans c6, (hX.cell (p := ⟨bc, 7, none⟩) hlc ngc).trans c7, (hX.cell (p := ⟨bc, 8, none⟩) hlc ngc).trans c8, (hX.cell (p := ⟨bc, 9, none⟩) hlc ngc).trans c9, (hX.cell (p := ⟨bc, 10, none⟩) hlc ngc).trans c10, (hX.cell (p := ⟨bc, 11, none⟩) hlc ngc).trans c11, (hX.cell (p := ⟨bc, 12, none⟩) hlc ngc).trans c12, (hX.cell (p := ⟨bc, 13, none⟩) hlc ngc).trans c13, (hX.cell (p := (ad.add (k * 4))) hlw nga).trans q0, (hX.cell (p := ⟨(ad.add (k * 4)).block, (ad.add (k * 4)).off + 1, none⟩) hlw nga).trans q1⟩))
            have Hlg := Lib.hid (fun W' (hf7 : Fr No wr W') => login_any #[.slice AbC nbC kbC, .slice AbG nbG kbG, .slice AbU nbU kbU, .slice AbA nbA kbA, .string ⟨r0.toArray⟩, .string ⟨r1.toArray⟩, .string ⟨r2.toArray⟩, .string ⟨r3.toArray⟩, .string ⟨r4.toArray⟩, .string ⟨r5.toArray⟩, .string ⟨r6.toArray⟩, .string ⟨r7.toArray⟩, .string ⟨r8.toArray⟩, .string ⟨r9.toArray⟩] y us pw W' (Btw (bc + 1) hi) (fun k hk => by have := hk.2; have := hf7.size; omega) (Conf.stable.go I.out.y (Kept.of_no hf7 fun b hb => by have := hb.2; omega) fun b hb => hb) g n 100 st u f un (I.out.g.fr hf7 (fun h => h)) (by omega) (by omega) (by omega) (by omega))
            
            obtain ⟨er, her⟩ : ∃ er, enterR y.2.2.1 us pw = er := ⟨_, rfl⟩
            rw [her] at Hlg
            have Hen := Lib.hid (fun W' (hf7 : Fr (Just g) wr W') => renter_any #[.slice AbC nbC kbC, .slice AbG nbG kbG, .slice AbU nbU kbU, .slice AbA nbA kbA, .string ⟨r0.toArray⟩, .string ⟨r1.toArray⟩, .string ⟨r2.toArray⟩, .string ⟨r3.toArray⟩, .string ⟨r4.toArray⟩, .string ⟨r5.toArray⟩, .string ⟨r6.toArray⟩, .string ⟨r7.toArray⟩, .string ⟨r8.toArray⟩, .string ⟨r9.toArray⟩] y us pw W' (Btw (bc + 1) hi) (fun k hk => by have := hk.2; have := hf7.size; omega) (Conf.stable.go I.out.y (Kept.of_fr hf7 fun b hb => ⟨by have := hb.2; omega, fun e => by have e : b = g := e; have := hb.2; omega⟩) fun b hb => hb))
            rw [her] at Hen
            have HER := Lib.hid her
            clear her
            go_upto_region 16 with (go_at_call 23; refine (state_any I.out.g (by omega)).mono ?_; rintro e w6 ⟨rfl, rfl⟩)
            go_region_held3 (fun X => X.cell? ⟨bc, 0, none⟩ = some (.slice AbC nbC kbC) ∧ X.cell? ⟨bc, 1, none⟩ = some (.slice AbG nbG kbG) ∧ X.cell? ⟨bc, 2, none⟩ = some (.slice AbU nbU kbU) ∧ X.cell? ⟨bc, 3, none⟩ = some (.slice AbA nbA kbA) ∧ X.cell? ⟨bc, 4, none⟩ = some (.string ⟨r0.toArray⟩) ∧ X.cell? ⟨bc, 5, none⟩ = some (.string ⟨r1.toArray⟩) ∧ X.cell? ⟨bc, 6, none⟩ = some (.string ⟨r2.toArray⟩) ∧ X.cell? ⟨bc, 7, none⟩ = some (.string ⟨r3.toArray⟩) ∧ X.cell? ⟨bc, 8, none⟩ = some (.string ⟨r4.toArray⟩) ∧ X.cell? ⟨bc, 9, none⟩ = some (.string ⟨r5.toArray⟩) ∧ X.cell? ⟨bc, 10, none⟩ = some (.string ⟨r6.toArray⟩) ∧ X.cell? ⟨bc, 11, none⟩ = some (.string ⟨r7.toArray⟩) ∧ X.cell? ⟨bc, 12, none⟩ = some (.string ⟨r8.toArray⟩) ∧ X.cell? ⟨bc, 13, none⟩ = some (.string ⟨r9.toArray⟩) ∧ X.cell? (ad.add (k * 4)) = some (.string ⟨us.toArray⟩) ∧ X.cell? ⟨(ad.add (k * 4)).block, (ad.add (k * 4)).off + 1, none⟩ = some (.string ⟨pw.toArray⟩)) ((refine HS.out _ ?_; repeat' (first | with_reducible assumption | with_reducible exact Fr.refl _ _ | with_reducible refine Fr.drew ?_ | with_reducible refine Fr.alloc ?_ _ | with_reducible refine Fr.setCell ?_ (.inr (by first | exact Nat.le_refl _ | exact Fr.size (by with_reducible assumption))) _))) ((go_at_call 21; refine (Hlg.out _ (by first | exact Fr.refl _ _ | exact (Fr.refl No wr).drew)).mono ?_; intro e w9 hp; obtain ⟨b9, rfl, i1, i2, i3, i4⟩ := hp; have hJ : Fr (Just g) wr w9 := (by first | exact i3 | exact ((Fr.refl (Just g) wr).drew).trans i3 (fun b hb hl => hb)); have JJ := Lib.hid hJ; have I4 := Lib.hid i4; clear i1 i2 i3 i4))
            all_goals
              (go_upto_region 17 with (fail)
               go_region_held3 (fun X => X.cell? ⟨bc, 0, none⟩ = some (.slice AbC nbC kbC) ∧ X.cell? ⟨bc, 1, none⟩ = some (.slice AbG nbG kbG) ∧ X.cell? ⟨bc, 2, none⟩ = some (.slice AbU nbU kbU) ∧ X.cell? ⟨bc, 3, none⟩ = some (.slice AbA nbA kbA) ∧ X.cell? ⟨bc, 4, none⟩ = some (.string ⟨r0.toArray⟩) ∧ X.cell? ⟨bc, 5, none⟩ = some (.string ⟨r1.toArray⟩) ∧ X.cell? ⟨bc, 6, none⟩ = some (.string ⟨r2.toArray⟩) ∧ X.cell? ⟨bc, 7, none⟩ = some (.string ⟨r3.toArray⟩) ∧ X.cell? ⟨bc, 8, none⟩ = some (.string ⟨r4.toArray⟩) ∧ X.cell? ⟨bc, 9, none⟩ = some (.string ⟨r5.toArray⟩) ∧ X.cell? ⟨bc, 10, none⟩ = some (.string ⟨r6.toArray⟩) ∧ X.cell? ⟨bc, 11, none⟩ = some (.string ⟨r7.toArray⟩) ∧ X.cell? ⟨bc, 12, none⟩ = some (.string ⟨r8.toArray⟩) ∧ X.cell? ⟨bc, 13, none⟩ = some (.string ⟨r9.toArray⟩) ∧ X.cell? (ad.add (k * 4)) = some (.string ⟨us.toArray⟩) ∧ X.cell? ⟨(ad.add (k * 4)).block, (ad.add (k * 4)).off + 1, none⟩ = some (.string ⟨pw.toArray⟩)) ((refine HS.out _ ?_; repeat' (first | with_reducible assumption | with_reducible exact Fr.refl _ _ | with_reducible refine Fr.drew ?_ | with_reducible refine Fr.alloc ?_ _ | with_reducible refine Fr.setCell ?_ (.inr (by first | exact Nat.le_refl _ | exact Fr.size (by with_reducible assumption))) _))) ((go_at_call 26; refine (Hen.out _ (by first | exact JJ.out | exact JJ.out.drew)).mono ?_; rintro e w11 ⟨rfl, hf11⟩; have hJ : Fr (Just g) wr w11 := (by first | exact JJ.out.then_no hf11 | exact JJ.out.drew.then_no hf11); have J11 := Lib.hid hJ; have HF11 := Lib.hid (show Fr No w9 w11 from (by first | exact hf11 | exact ((Fr.refl No w9).drew).then_no hf11)); clear hf11)))
            have q9 := (J11.out.cell (p := (ad.add (k * 4))) hlw nga).trans q0
            rcases HK.out with e2 | ⟨e0, esh, efl, efn⟩ | ⟨e1, esh, efl, einn⟩
            · subst e2
              have hlr : loginR n 2 u f (decide (er = 0)) us = ((2, u, f), (421, shutT)) := by simp [loginR]
              rw [hlr] at I4
              have G11 : Hid (GAt w11 g n 100 2 u f un) := Lib.hid (I4.out.fr HF11.out (fun h => h))
              clear I4 hlr
              go_wp2_with (go_at_call 23; refine (state_any G11.out (by omega)).mono ?_; rintro e w12 ⟨rfl, rfl⟩)
              go_meet
              case rel => exact ⟨2, u, f, fl, inn, sh, rfl, rfl, rfl, by omega, by omega, hu, Lib.hid (.inl rfl), I.out.next J11.out Hbc.out (by omega) hig G11.out⟩
            · subst e0 esh
              have efl := efl.symm
              subst efl
              by_cases hok : er = 0
              · subst hok
                have hlr : loginR n 0 u f (decide ((0 : Int) = 0)) us = ((1, us, f), (230, welcome us)) := by simp [loginR]
                rw [hlr] at I4
                have G11 : Hid (GAt w11 g n 100 1 us f un) := Lib.hid (I4.out.fr HF11.out (fun h => h))
                clear I4 hlr
                go_wp2_with (go_at_call 23; refine (state_any G11.out (by omega)).mono ?_; rintro e w12 ⟨rfl, rfl⟩)
                go_meet
                case rel => exact ⟨1, us, f, f, us, false, rfl, rfl, rfl, by omega, by omega, by omega, Lib.hid (.inr (.inr ⟨rfl, rfl, by omega, rfl⟩)), I.out.next J11.out Hbc.out (by omega) hig G11.out⟩
              · have hok2 : (er == 0) = false := by simpa using hok
                by_cases hfn : f + 1 < n
                · have hlr : loginR n 0 u f (decide (er = 0)) us = ((0, u, f + 1), (430, noSuch)) := by simp [loginR, hok, hfn]
                  rw [hlr] at I4
                  have G11 : Hid (GAt w11 g n 100 0 u (f + 1) un) := Lib.hid (I4.out.fr HF11.out (fun h => h))
                  clear I4 hlr
                  go_wp2_with (go_at_call 23; refine (state_any G11.out (by omega)).mono ?_; rintro e w12 ⟨rfl, rfl⟩)
                  go_meet
                  case rel => exact ⟨0, u, f + 1, f + 1, inn, false, rfl, rfl, by go_num, by omega, by omega, hu, Lib.hid (.inr (.inl ⟨rfl, rfl, by omega, by omega⟩)), I.out.next J11.out Hbc.out (by omega) hig G11.out⟩
                · have hlr : loginR n 0 u f (decide (er = 0)) us = ((2, u, f + 1), (421, tooMany)) := by simp [loginR, hok, hfn]
                  rw [hlr] at I4
                  have G11 : Hid (GAt w11 g n 100 2 u (f + 1) un) := Lib.hid (I4.out.fr HF11.out (fun h => h))
                  clear I4 hlr
                  go_wp2_with (go_at_call 23; refine (state_any G11.out (by omega)).mono ?_; rintro e w12 ⟨rfl, rfl⟩)
                  go_meet
                  case rel => exact ⟨2, u, f + 1, f + 1, inn, false, rfl, rfl, by go_num, by omega, by omega, hu, Lib.hid (.inl rfl), I.out.next J11.out Hbc.out (by omega) hig G11.out⟩
            · subst e1
              have hlr : loginR n 1 u f (decide (er = 0)) us = ((1, u, f), (503, youAre u)) := by simp [loginR]
              rw [hlr] at I4
              have G11 : Hid (GAt w11 g n 100 1 u f un) := Lib.hid (I4.out.fr HF11.out (fun h => h))
              clear I4 hlr
              go_wp2_with (go_at_call 23; refine (state_any G11.out (by omega)).mono ?_; rintro e w12 ⟨rfl, rfl⟩)
              go_meet
              case rel => exact ⟨1, u, f, fl, inn, sh, rfl, rfl, rfl, by omega, by omega, hu, HK, I.out.next J11.out Hbc.out (by omega) hig G11.out⟩
        case rest =>
          clear hw3 q0 q1 q2 q3 I HK hf hfl hu
          obtain ⟨st', u', f', fl', inn', sh', rfl, rfl, rfl, hf', hfl', hu', HK', I'⟩ := hcut
          rcases HK'.out with e2 | ⟨e0, esh, efl, efn⟩ | ⟨e1, esh, efl, einn⟩
          · subst e2
            cases sh' with
            | true =>
              cases inn' with
              | nil =>
                have hU : userS 2 u' = [] := by simp [userS]
                go_wp2_with (first | (go_at_call 23; refine (state_any I'.out.g (by omega)).mono ?_; rintro e w12 ⟨rfl, rfl⟩) | (go_at_call 24; refine (user_any I'.out.g (by omega)).mono ?_; rintro e w12 ⟨he, rfl⟩; rw [hU] at he; subst he))
                go_roundw
                case rel => exact ⟨k + 1, by go_num, by omega, 2, u', f', fl', [], true, rfl, rfl, rfl, by omega, by omega, hu', HK', I'⟩
                case measure => simp [intOf]; omega
              | cons d ds =>
                have hU : userS 2 u' = [] := by simp [userS]
                go_wp2_with (first | (go_at_call 23; refine (state_any I'.out.g (by omega)).mono ?_; rintro e w12 ⟨rfl, rfl⟩) | (go_at_call 24; refine (user_any I'.out.g (by omega)).mono ?_; rintro e w12 ⟨he, rfl⟩; rw [hU] at he; subst he))
                go_roundw
                case rel => exact ⟨k + 1, by go_num, by omega, 2, u', f', fl', d :: ds, true, rfl, rfl, rfl, by omega, by omega, hu', HK', I'⟩
                case measure => simp [intOf]; omega
            | false =>
              by_cases hge : n ≤ fl'
              · cases inn' with
                | nil =>
                  have hU : userS 2 u' = [] := by simp [userS]
                  go_wp2_with (first | (go_at_call 23; refine (state_any I'.out.g (by omega)).mono ?_; rintro e w12 ⟨rfl, rfl⟩) | (go_at_call 24; refine (user_any I'.out.g (by omega)).mono ?_; rintro e w12 ⟨he, rfl⟩; rw [hU] at he; subst he))
                  go_roundw
                  case rel => exact ⟨k + 1, by go_num, by omega, 2, u', f', fl', [], false, rfl, rfl, rfl, by omega, by omega, hu', HK', I'⟩
                  case measure => simp [intOf]; omega
                | cons d ds =>
                  have hU : userS 2 u' = [] := by simp [userS]
                  go_wp2_with (first | (go_at_call 23; refine (state_any I'.out.g (by omega)).mono ?_; rintro e w12 ⟨rfl, rfl⟩) | (go_at_call 24; refine (user_any I'.out.g (by omega)).mono ?_; rintro e w12 ⟨he, rfl⟩; rw [hU] at he; subst he))
                  go_roundw
                  case rel => exact ⟨k + 1, by go_num, by omega, 2, u', f', fl', d :: ds, false, rfl, rfl, rfl, by omega, by omega, hu', HK', I'⟩
                  case measure => simp [intOf]; omega
              · have hge : fl' < n := by omega
                cases inn' with
                | nil =>
                  have hU : userS 2 u' = [] := by simp [userS]
                  go_wp2_with (first | (go_at_call 23; refine (state_any I'.out.g (by omega)).mono ?_; rintro e w12 ⟨rfl, rfl⟩) | (go_at_call 24; refine (user_any I'.out.g (by omega)).mono ?_; rintro e w12 ⟨he, rfl⟩; rw [hU] at he; subst he))
                  go_roundw
                  case rel => exact ⟨k + 1, by go_num, by omega, 2, u', f', fl', [], false, rfl, rfl, rfl, by omega, by omega, hu', HK', I'⟩
                  case measure => simp [intOf]; omega
                | cons d ds =>
                  have hU : userS 2 u' = [] := by simp [userS]
                  go_wp2_with (first | (go_at_call 23; refine (state_any I'.out.g (by omega)).mono ?_; rintro e w12 ⟨rfl, rfl⟩) | (go_at_call 24; refine (user_any I'.out.g (by omega)).mono ?_; rintro e w12 ⟨he, rfl⟩; rw [hU] at he; subst he))
                  go_roundw
                  case rel => exact ⟨k + 1, by go_num, by omega, 2, u', f', fl', d :: ds, false, rfl, rfl, rfl, by omega, by omega, hu', HK', I'⟩
                  case measure => simp [intOf]; omega
          · subst e0 esh
            have efl := efl.symm
            subst efl
            have hge : f' < n := by omega
            cases inn' with
            | nil =>
              have hU : userS 0 u' = [] := by simp [userS]
              go_wp2_with (first | (go_at_call 23; refine (state_any I'.out.g (by omega)).mono ?_; rintro e w12 ⟨rfl, rfl⟩) | (go_at_call 24; refine (user_any I'.out.g (by omega)).mono ?_; rintro e w12 ⟨he, rfl⟩; rw [hU] at he; subst he))
              go_roundw
              case rel => exact ⟨k + 1, by go_num, by omega, 0, u', f', f', [], false, rfl, rfl, rfl, by omega, by omega, hu', HK', I'⟩
              case measure => simp [intOf]; omega
            | cons d ds =>
              have hU : userS 0 u' = [] := by simp [userS]
              go_wp2_with (first | (go_at_call 23; refine (state_any I'.out.g (by omega)).mono ?_; rintro e w12 ⟨rfl, rfl⟩) | (go_at_call 24; refine (user_any I'.out.g (by omega)).mono ?_; rintro e w12 ⟨he, rfl⟩; rw [hU] at he; subst he))
              go_roundw
              case rel => exact ⟨k + 1, by go_num, by omega, 0, u', f', f', d :: ds, false, rfl, rfl, rfl, by omega, by omega, hu', HK', I'⟩
              case measure => simp [intOf]; omega
          · have einn := einn.symm
            subst e1 esh einn
            have hU : userS 1 u' = u' := by simp [userS]
            go_wp2_with (first | (go_at_call 23; refine (state_any I'.out.g (by omega)).mono ?_; rintro e w12 ⟨rfl, rfl⟩) | (go_at_call 24; refine (user_any I'.out.g (by omega)).mono ?_; rintro e w12 ⟨he, rfl⟩; rw [hU] at he; subst he))
            go_roundw
            case rel => exact ⟨k + 1, by go_num, by omega, 1, u', f', fl', u', false, rfl, rfl, rfl, by omega, by omega, hu', HK', I'⟩
            case measure => simp [intOf]; omega
    · go_wp2_with (go_at_call 13; refine (works_any _).mono ?_; rintro e w9 ⟨rfl, hf9⟩; have Hf9 := Lib.hid hf9; clear hf9)
      go_ret
      exact ⟨rfl, I.out.fr.then_no Hf9.out⟩
end Gate
end Go.Proofs.Ytllnaflknnkgiaa
