/- The gate's laws: the walk of GateDoes. Printed by gen_gated.py. -/
import Derived.Test.YtllnaflknnkgiaaGateF
import Derived.Test.YtllnaflknnkgiaaFew
import Derived.BigQuiet
import Derived.Deep.CutRange
import Derived.Deep.RegionHeld3
namespace Go.Proofs.Ytllnaflknnkgiaa
open Go.RowKit
set_option linter.unusedVariables false
set_option linter.unusedSimpArgs false
namespace Gate
open Conf
set_option maxRecDepth 100000 in
set_option maxHeartbeats 40000000 in
theorem walk_GateDoes (W : World) (c0 : Array Value) (x : C) (h0 : RConf W (Ahead W.heap.size) c0.toList x) (v1 : Value) (t : Int) (h1 : (RInt .i64) W (Ahead W.heap.size) [v1] t) (v2 : Value) (wt : Int) (h2 : (RInt .i64) W (Ahead W.heap.size) [v2] wt) (v3 : Value) (now : Int) (h3 : (RInt .i64) W (Ahead W.heap.size) [v3] now) (v4 : Value) (l : List Tr) (h4 : (RSl 4 RTr) W (Ahead W.heap.size) [v4] l) :
    Calls Try.prog 3 #[.agg c0, v1, v2, v3, v4] W fun e w' => e = .returned (.bool true) ∧ Fr No W w' := by
  obtain ⟨h1a, h1b⟩ := h1
  injection h1a with h1a _
  subst h1a
  have h1b := wf64 h1b
  obtain ⟨h2a, h2b⟩ := h2
  injection h2a with h2a _
  subst h2a
  have h2b := wf64 h2b
  obtain ⟨h3a, h3b⟩ := h3
  injection h3a with h3a _
  subst h3a
  have h3b := wf64 h3b
  have H4 := Lib.hid h4
  obtain ⟨AL, kL, rfl, hl1, hl2⟩ := h4.slice
  unfold maxLen at hl2
  obtain ⟨AaC, AaG, AaU, AaA, naC, kaC, naG, kaG, naU, kaU, naA, kaA, s0, s1, s2, s3, s4, s5, s6, s7, s8, s9, hc0⟩ := conf_cells h0
  rw [hc0] at h0 ⊢
  have H0 := Lib.hid h0
  clear hc0 h0 h4
  have F1 := Lib.hid ((Fr.refl No W).alloc (.cells #[.slice AaC naC kaC, .slice AaG naG kaG, .slice AaU naU kaU, .slice AaA naA kaA, .string ⟨s0.toArray⟩, .string ⟨s1.toArray⟩, .string ⟨s2.toArray⟩, .string ⟨s3.toArray⟩, .string ⟨s4.toArray⟩, .string ⟨s5.toArray⟩, .string ⟨s6.toArray⟩, .string ⟨s7.toArray⟩, .string ⟨s8.toArray⟩, .string ⟨s9.toArray⟩] 28))
  have B1 := Lib.hid (Blk.new W 28 #[.slice AaC naC kaC, .slice AaG naG kaG, .slice AaU naU kaU, .slice AaA naA kaA, .string ⟨s0.toArray⟩, .string ⟨s1.toArray⟩, .string ⟨s2.toArray⟩, .string ⟨s3.toArray⟩, .string ⟨s4.toArray⟩, .string ⟨s5.toArray⟩, .string ⟨s6.toArray⟩, .string ⟨s7.toArray⟩, .string ⟨s8.toArray⟩, .string ⟨s9.toArray⟩])
  by_cases b0 : 30 < l.length
  · go_enter Try.func3, Try.ntmps3
    go_wp2_with (go_at_call 13; refine (works_any _).mono ?_; rintro e w9 ⟨rfl, hf9⟩; have Hf9 := Lib.hid hf9; clear hf9)
    go_ret
    exact ⟨rfl, F1.out.then_no Hf9.out⟩
  go_enter Try.func3, Try.ntmps3
  go_wp2_with fail
  refine (few_any #[.slice AaC naC kaC, .slice AaG naG kaG, .slice AaU naU kaU, .slice AaA naA kaA, .string ⟨s0.toArray⟩, .string ⟨s1.toArray⟩, .string ⟨s2.toArray⟩, .string ⟨s3.toArray⟩, .string ⟨s4.toArray⟩, .string ⟨s5.toArray⟩, .string ⟨s6.toArray⟩, .string ⟨s7.toArray⟩, .string ⟨s8.toArray⟩, .string ⟨s9.toArray⟩] x _ (Ahead W.heap.size) (fun k hk => Nat.lt_of_lt_of_le hk F1.out.size) (Conf.stable.go H0.out (Kept.of_no F1.out fun k hk => hk) fun b hb => hb)).mono ?_
  intro e w2 hp
  obtain ⟨cs, y, rfl, hy, hf2⟩ := hp
  obtain ⟨AbC, AbG, AbU, AbA, nbC, kbC, nbG, kbG, nbU, kbU, nbA, kbA, r0, r1, r2, r3, r4, r5, r6, r7, r8, r9, hcs⟩ := conf_cells hy
  subst hcs
  have hb2 := B1.out.fr hf2 (fun h => h)
  have c0 := hb2.cell 0
  have c1 := hb2.cell 1
  have c2 := hb2.cell 2
  have c3 := hb2.cell 3
  have c4 := hb2.cell 4
  have c5 := hb2.cell 5
  have c6 := hb2.cell 6
  have c7 := hb2.cell 7
  have c8 := hb2.cell 8
  have c9 := hb2.cell 9
  have c10 := hb2.cell 10
  have c11 := hb2.cell 11
  have c12 := hb2.cell 12
  have c13 := hb2.cell 13
  have z0 := hb2.frozen 0
  have z1 := hb2.frozen 1
  have z2 := hb2.frozen 2
  have z3 := hb2.frozen 3
  have z4 := hb2.frozen 4
  have z5 := hb2.frozen 5
  have z6 := hb2.frozen 6
  have z7 := hb2.frozen 7
  have z8 := hb2.frozen 8
  have z9 := hb2.frozen 9
  have z10 := hb2.frozen 10
  have z11 := hb2.frozen 11
  have z12 := hb2.frozen 12
  have z13 := hb2.frozen 13
  simp only [List.getElem?_toArray, List.getElem?_cons_zero, List.getElem?_cons_succ] at c0 c1 c2 c3 c4 c5 c6 c7 c8 c9 c10 c11 c12 c13
  have B2 := Lib.hid hb2
  have F2 := Lib.hid (F1.out.then_no hf2)
  have hs2 := hf2.size
  have S1 := Lib.hid (size_alloc W (.cells #[.slice AaC naC kaC, .slice AaG naG kaG, .slice AaU naU kaU, .slice AaA naA kaA, .string ⟨s0.toArray⟩, .string ⟨s1.toArray⟩, .string ⟨s2.toArray⟩, .string ⟨s3.toArray⟩, .string ⟨s4.toArray⟩, .string ⟨s5.toArray⟩, .string ⟨s6.toArray⟩, .string ⟨s7.toArray⟩, .string ⟨s8.toArray⟩, .string ⟨s9.toArray⟩] 28))
  have HY := Lib.hid hy
  clear hb2 hf2 hy
  obtain ⟨bc, hbc⟩ : ∃ bc, W.heap.size = bc := ⟨_, rfl⟩
  rw [hbc] at B2 c0 z0 c1 z1 c2 z2 c3 z3 c4 z4 c5 z5 c6 z6 c7 z7 c8 z8 c9 z9 c10 z10 c11 z11 c12 z12 c13 z13 ⊢
  rw [hbc] at S1
  have Hbc := Lib.hid hbc
  clear hbc
  go_wp2_with fail
  have b3 := ((((((((((((((B2.out.put 0 (.slice AbC nbC kbC)).put 1 (.slice AbG nbG kbG)).put 2 (.slice AbU nbU kbU)).put 3 (.slice AbA nbA kbA)).put 4 (.string ⟨r0.toArray⟩)).put 5 (.string ⟨r1.toArray⟩)).put 6 (.string ⟨r2.toArray⟩)).put 7 (.string ⟨r3.toArray⟩)).put 8 (.string ⟨r4.toArray⟩)).put 9 (.string ⟨r5.toArray⟩)).put 10 (.string ⟨r6.toArray⟩)).put 11 (.string ⟨r7.toArray⟩)).put 12 (.string ⟨r8.toArray⟩)).put 13 (.string ⟨r9.toArray⟩))
  simp at b3
  have f3 : Fr (Just bc) w2 _ := (((((((((((((((Fr.refl (Just bc) w2).setCell (p := ⟨bc, 0, none⟩) (.inl rfl) (.slice AbC nbC kbC)).setCell (p := ⟨bc, 1, none⟩) (.inl rfl) (.slice AbG nbG kbG)).setCell (p := ⟨bc, 2, none⟩) (.inl rfl) (.slice AbU nbU kbU)).setCell (p := ⟨bc, 3, none⟩) (.inl rfl) (.slice AbA nbA kbA)).setCell (p := ⟨bc, 4, none⟩) (.inl rfl) (.string ⟨r0.toArray⟩)).setCell (p := ⟨bc, 5, none⟩) (.inl rfl) (.string ⟨r1.toArray⟩)).setCell (p := ⟨bc, 6, none⟩) (.inl rfl) (.string ⟨r2.toArray⟩)).setCell (p := ⟨bc, 7, none⟩) (.inl rfl) (.string ⟨r3.toArray⟩)).setCell (p := ⟨bc, 8, none⟩) (.inl rfl) (.string ⟨r4.toArray⟩)).setCell (p := ⟨bc, 9, none⟩) (.inl rfl) (.string ⟨r5.toArray⟩)).setCell (p := ⟨bc, 10, none⟩) (.inl rfl) (.string ⟨r6.toArray⟩)).setCell (p := ⟨bc, 11, none⟩) (.inl rfl) (.string ⟨r7.toArray⟩)).setCell (p := ⟨bc, 12, none⟩) (.inl rfl) (.string ⟨r8.toArray⟩)).setCell (p := ⟨bc, 13, none⟩) (.inl rfl) (.string ⟨r9.toArray⟩))
  generalize ((((((((((((((w2.setCell ⟨bc, 0, none⟩ (.slice AbC nbC kbC)).setCell ⟨bc, 1, none⟩ (.slice AbG nbG kbG)).setCell ⟨bc, 2, none⟩ (.slice AbU nbU kbU)).setCell ⟨bc, 3, none⟩ (.slice AbA nbA kbA)).setCell ⟨bc, 4, none⟩ (.string ⟨r0.toArray⟩)).setCell ⟨bc, 5, none⟩ (.string ⟨r1.toArray⟩)).setCell ⟨bc, 6, none⟩ (.string ⟨r2.toArray⟩)).setCell ⟨bc, 7, none⟩ (.string ⟨r3.toArray⟩)).setCell ⟨bc, 8, none⟩ (.string ⟨r4.toArray⟩)).setCell ⟨bc, 9, none⟩ (.string ⟨r5.toArray⟩)).setCell ⟨bc, 10, none⟩ (.string ⟨r6.toArray⟩)).setCell ⟨bc, 11, none⟩ (.string ⟨r7.toArray⟩)).setCell ⟨bc, 12, none⟩ (.string ⟨r8.toArray⟩)).setCell ⟨bc, 13, none⟩ (.string ⟨r9.toArray⟩)) = W3 at b3 f3 ⊢
  clear c0 z0 c1 z1 c2 z2 c3 z3 c4 z4 c5 z5 c6 z6 c7 z7 c8 z8 c9 z9 c10 z10 c11 z11 c12 z12 c13 z13
  have B3 := Lib.hid b3
  have F3 := Lib.hid (F2.out.trans f3 fun k hk hl => by have hk : k = bc := hk; have := Hbc.out; omega)
  have hs3 := f3.size
  obtain ⟨hi, hhi⟩ : ∃ hi, hi = w2.heap.size := ⟨_, rfl⟩
  have hlt3 : bc + 1 ≤ hi ∧ hi ≤ W3.heap.size := by have := B2.out.lt; omega
  have Y3 := Lib.hid (Conf.stable.go HY.out (S' := Btw (bc + 1) hi) (Kept.of_fr f3 fun b hb => ⟨hb.2, fun e => by have e : b = bc := e; have := hb.1; have := S1.out; omega⟩) fun b hb => ⟨by have := hb.1; have := S1.out; omega, by have := hb.2; omega⟩)
  clear b3 f3 HY B2 F2 S1 hhi hs2 hs3
  obtain ⟨nr, hnr⟩ : ∃ nr, nr = newR t wt now := ⟨_, rfl⟩
  have HN := Lib.hid hnr
  clear hnr
  by_cases hz : nr = 0
  · have hnz : (nr == 0) = true := by simpa using hz
    refine (new_any t wt now _ h3b).mono ?_
    intro e w4 hp
    obtain ⟨g, rfl, hg, hf4, hn4⟩ := hp.yes (by rw [← HN.out]; exact hz)
    have hig : hi ≤ g := by have := hn4.1; omega
    have ht1 : 1 ≤ t ∧ t ≤ 9 := by
      have h := HN.out
      rw [hz] at h
      unfold newR at h
      split at h
      · cases h
      · omega
    have hB4 := B3.out.fr hf4 (fun h => h)
    have hY4 := Conf.stable.go Y3.out (Kept.of_no hf4 fun b hb => Nat.lt_of_lt_of_le hb.2 hlt3.2) fun b hb => hb
    have B4 := Lib.hid hB4
    have Y4 := Lib.hid hY4
    have F4 := Lib.hid (F3.out.then_no hf4)
    have G4 := Lib.hid hg
    have hg4 := hg.lt
    clear hp hf4 hn4 hg hB4 hY4
    go_wp2_with fail
    refine (rnew_any t wt now _ h3b).mono ?_
    intro e w5 hp
    obtain ⟨rfl, hf5⟩ := hp.yes (by rw [← HN.out]; exact hz)
    obtain ⟨un, hun⟩ : ∃ un, un = now + wt := ⟨_, rfl⟩
    rw [← hun] at G4 ⊢
    clear hun
    obtain ⟨r, hr⟩ : ∃ r, w5.heap.size = r := ⟨_, rfl⟩
    have hgr : g < r := by have := hf5.size; omega
    have I5 := Lib.hid (show GInv W (w5.alloc (.cells #[.int .i64 t, .int .i64 0, .string ⟨#[]⟩, .int .i64 0, .int .i64 un] 37)) g r bc hi t wt 0 [] 0 un #[.slice AbC nbC kbC, .slice AbG nbG kbG, .slice AbU nbU kbU, .slice AbA nbA kbA, .string ⟨r0.toArray⟩, .string ⟨r1.toArray⟩, .string ⟨r2.toArray⟩, .string ⟨r3.toArray⟩, .string ⟨r4.toArray⟩, .string ⟨r5.toArray⟩, .string ⟨r6.toArray⟩, .string ⟨r7.toArray⟩, .string ⟨r8.toArray⟩, .string ⟨r9.toArray⟩] y from
      ⟨(G4.out.fr hf5 (fun h => h)).alloc _, hr ▸ Blk.new _ _ _, (B4.out.fr hf5 (fun h => h)).alloc _, Conf.stable.go Y4.out (Kept.of_no ((Fr.refl No w4).then_no hf5 |>.alloc _) fun b hb => by have := hb.2; omega) fun b hb => hb, (F4.out.then_no hf5).alloc _⟩)
    have Hr := Lib.hid hr
    clear hp hf5 hr G4 Y4 B4 F4 B3 Y3 F3 F1 B1 H0
    go_wp2_with fail
    rw [Hr.out]
    generalize (w5.alloc (.cells #[.int .i64 t, .int .i64 0, .string ⟨#[]⟩, .int .i64 0, .int .i64 un] 37)) = w6 at I5 ⊢
    go_loopw [15] (fun iv wr => ∃ (k : Nat) (st : Int) (u : Str) (f : Int), iv = .int .i64 k ∧ k ≤ l.length ∧ (0 ≤ f ∧ f ≤ k) ∧ u.length ≤ 60 ∧ Hid (GInv W wr g r bc hi t wt st u f un #[.slice AbC nbC kbC, .slice AbG nbG kbG, .slice AbU nbU kbU, .slice AbA nbA kbA, .string ⟨r0.toArray⟩, .string ⟨r1.toArray⟩, .string ⟨r2.toArray⟩, .string ⟨r3.toArray⟩, .string ⟨r4.toArray⟩, .string ⟨r5.toArray⟩, .string ⟨r6.toArray⟩, .string ⟨r7.toArray⟩, .string ⟨r8.toArray⟩, .string ⟨r9.toArray⟩] y)) (fun i _ => l.length - (intOf i).toNat)
    case atStart => exact ⟨0, 0, [], 0, rfl, by omega, by omega, by simp, I5.out⟩
    case round =>
      clear I5
      obtain ⟨k, st, u, f, rfl, hk, hf, hu, I⟩ := hrel
      by_cases hlt : k < l.length
      · obtain ⟨ad, rfl, hla, q0, q1, q2, q3, hw3⟩ := try_at H4.out I.out.fr (fun k hk => hk) hlt
        obtain ⟨x, hx⟩ : ∃ x, x = l[k] := ⟨_, rfl⟩
        obtain ⟨us, pw, lt, tn⟩ := x
        rw [← hx] at q0 q1 q2 q3 hw3
        simp only at q0 q1 q2 q3 hw3
        have hw3 := wf64 hw3
        clear hx
        by_cases h60 : 60 < us.length
        · go_wp2_with fail
          go_roundw
          case rel => exact ⟨k + 1, st, u, f, by go_num, by omega, by omega, hu, I.out⟩
          case measure => simp [intOf]; omega
        · go_upto_if 74 with (fail)
          go_cut [16, 17, 18, 19] from 57 to 172 (fun _ _ _ _ wx => ∃ (st : Int) (u : Str) (f : Int), (0 ≤ f ∧ f ≤ k + 1) ∧ u.length ≤ 60 ∧ Hid (GInv W wx g r bc hi t wt st u f un #[.slice AbC nbC kbC, .slice AbG nbG kbG, .slice AbU nbU kbU, .slice AbA nbA kbA, .string ⟨r0.toArray⟩, .string ⟨r1.toArray⟩, .string ⟨r2.toArray⟩, .string ⟨r3.toArray⟩, .string ⟨r4.toArray⟩, .string ⟨r5.toArray⟩, .string ⟨r6.toArray⟩, .string ⟨r7.toArray⟩, .string ⟨r8.toArray⟩, .string ⟨r9.toArray⟩] y))
          case first =>
            as_aux_lemma =>
              have hlr := I.out.r.lt
              have hlg := I.out.g.lt
              have hlw : (ad.add (k * 4)).block < wr.heap.size := Nat.lt_of_lt_of_le hla I.out.fr.size
              have na1 : (ad.add (k * 4)).block ≠ wr.heap.size := by omega
              have na2 : wr.heap.size ≠ (ad.add (k * 4)).block := by omega
              have nr1 : r ≠ wr.heap.size := by omega
              have nr2 : wr.heap.size ≠ r := by omega
              have hI0 := I.out.r
              have m0 := hI0.cell 0
              have m1 := hI0.cell 1
              have m2 := hI0.cell 2
              have m3 := hI0.cell 3
              have m4 := hI0.cell 4
              simp only [List.getElem?_toArray, List.getElem?_cons_zero, List.getElem?_cons_succ] at m0 m1 m2 m3 m4
              clear hI0
              cases lt with
              | true =>
                as_aux_lemma =>
                  go_upto_region 15 with (fail)
                  go_cut [16, 17] from 57 to 172 (fun a b wx => ∃ bx : Nat, a = .pointer (some ⟨bx, 0, none⟩) ∧ b = .bool (lateS st un tn) ∧ Hid (Blk wx bx 37 #[.int .i64 t, .int .i64 (lateT st un tn), .string ⟨u.toArray⟩, .int .i64 f, .int .i64 un]) ∧ wr.heap.size ≤ bx ∧ Hid (Fr No wr wx))
                  case first =>
                    as_aux_lemma =>
                      go_region_held3 (fun w' => w'.cell? ⟨r, 0, none⟩ = some (.int .i64 t) ∧ w'.cell? ⟨r, 1, none⟩ = some (.int .i64 st) ∧ w'.cell? ⟨r, 2, none⟩ = some (.string ⟨u.toArray⟩) ∧ w'.cell? ⟨r, 3, none⟩ = some (.int .i64 f) ∧ w'.cell? ⟨r, 4, none⟩ = some (.int .i64 un) ∧ w'.cell? ⟨(ad.add (k * 4)).block, (ad.add (k * 4)).off + 3, none⟩ = some (.int .i64 tn)) (go_keep) ((go_at_call 17; refine (rlate_any t st u f un tn _).mono ?_; rintro e w7 ⟨rfl, h7⟩; have hI : Fr No wr w7 := (by first | exact (Fr.refl No wr).then_no h7 | exact (Fr.refl No wr).drew.then_no h7 | exact ((Fr.refl No wr).alloc (.cells #[.int .i64 0, .int .i64 0, .string ⟨#[]⟩, .int .i64 0, .int .i64 0] 37)).then_no h7 | exact ((Fr.refl No wr).alloc (.cells #[.int .i64 0, .int .i64 0, .string ⟨#[]⟩, .int .i64 0, .int .i64 0] 37)).drew.then_no h7 | exact ((Fr.refl No wr).drew.alloc (.cells #[.int .i64 0, .int .i64 0, .string ⟨#[]⟩, .int .i64 0, .int .i64 0] 37)).then_no h7); have R7 := I.out.r.fr hI (fun h => h); have n0 := R7.cell 0; have n1 := R7.cell 1; have n2 := R7.cell 2; have n3 := R7.cell 3; have n4 := R7.cell 4; simp only [List.getElem?_toArray, List.getElem?_cons_zero, List.getElem?_cons_succ] at n0 n1 n2 n3 n4; have kq := (hI.cell (p := ⟨(ad.add (k * 4)).block, (ad.add (k * 4)).off + 3, none⟩) hlw (fun h => h)).trans q3; first | (have hz7 : Fr No (wr.alloc (.cells #[.int .i64 0, .int .i64 0, .string ⟨#[]⟩, .int .i64 0, .int .i64 0] 37)) w7 := (by first | exact (Fr.refl No (wr.alloc (.cells #[.int .i64 0, .int .i64 0, .string ⟨#[]⟩, .int .i64 0, .int .i64 0] 37))).then_no h7 | exact (Fr.refl No (wr.alloc (.cells #[.int .i64 0, .int .i64 0, .string ⟨#[]⟩, .int .i64 0, .int .i64 0] 37))).drew.then_no h7); have bz := (Blk.new wr 37 #[.int .i64 0, .int .i64 0, .string ⟨#[]⟩, .int .i64 0, .int .i64 0]).fr hz7 (fun h => h); have zc0 := bz.cell 0; have zf0 := bz.frozen 0; have zc1 := bz.cell 1; have zf1 := bz.frozen 1; have zc2 := bz.cell 2; have zf2 := bz.frozen 2; have zc3 := bz.cell 3; have zf3 := bz.frozen 3; have zc4 := bz.cell 4; have zf4 := bz.frozen 4; simp only [List.getElem?_toArray, List.getElem?_cons_zero, List.getElem?_cons_succ] at zc0 zc1 zc2 zc3 zc4; have BZ := Lib.hid bz; have HI := Lib.hid hI; clear bz R7 h7 hI hz7) | (have HI := Lib.hid hI; clear R7 h7 hI)))
                      all_goals
                        as_aux_lemma =>
                          go_wp2_with fail
                          go_meet
                          case rel =>
                            first
                            | (have bb := (((((BZ.out.put 0 (.int .i64 t)).put 1 (.int .i64 (lateT st un tn))).put 2 (.string ⟨u.toArray⟩)).put 3 (.int .i64 f)).put 4 (.int .i64 un))
                               simp at bb
                               exact ⟨wr.heap.size, rfl, rfl, bb, Nat.le_refl _, (((((HI.out.setCell (p := ⟨wr.heap.size, 0, none⟩) (.inr (Nat.le_refl _)) (.int .i64 t)).setCell (p := ⟨wr.heap.size, 1, none⟩) (.inr (Nat.le_refl _)) (.int .i64 (lateT st un tn))).setCell (p := ⟨wr.heap.size, 2, none⟩) (.inr (Nat.le_refl _)) (.string ⟨u.toArray⟩)).setCell (p := ⟨wr.heap.size, 3, none⟩) (.inr (Nat.le_refl _)) (.int .i64 f)).setCell (p := ⟨wr.heap.size, 4, none⟩) (.inr (Nat.le_refl _)) (.int .i64 un))⟩)
                            | exact ⟨w7.heap.size, rfl, rfl, Blk.new w7 37 #[.int .i64 t, .int .i64 (lateT st un tn), .string ⟨u.toArray⟩, .int .i64 f, .int .i64 un], HI.out.size, HI.out.alloc _⟩
                  case rest =>
                    as_aux_lemma =>
                      obtain ⟨bx, rfl, rfl, BX, hbx, FX⟩ := hcut
                      have nb1 : r ≠ bx := by omega
                      have nb2 : bx ≠ r := by omega
                      have rr := I.out.r.fr FX.out (fun h => h)
                      clear m0 m1 m2 m3 m4
                      have m0 := rr.cell 0
                      have m1 := rr.cell 1
                      have m2 := rr.cell 2
                      have m3 := rr.cell 3
                      have m4 := rr.cell 4
                      have y0 := rr.frozen 0
                      have y1 := rr.frozen 1
                      have y2 := rr.frozen 2
                      have y3 := rr.frozen 3
                      have y4 := rr.frozen 4
                      simp only [List.getElem?_toArray, List.getElem?_cons_zero, List.getElem?_cons_succ] at m0 m1 m2 m3 m4
                      have xx := BX.out
                      have x0 := xx.cell 0
                      have x1 := xx.cell 1
                      have x2 := xx.cell 2
                      have x3 := xx.cell 3
                      have x4 := xx.cell 4
                      simp only [List.getElem?_toArray, List.getElem?_cons_zero, List.getElem?_cons_succ] at x0 x1 x2 x3 x4
                      have kq := (FX.out.cell (p := ⟨(ad.add (k * 4)).block, (ad.add (k * 4)).off + 3, none⟩) hlw (fun h => h)).trans q3
                      have R7 := Lib.hid rr
                      have nkr : (ad.add (k * 4)).block ≠ r := by have := I.out.r.lt; have := hgr; have := Hbc.out; omega
                      have nkr2 : r ≠ (ad.add (k * 4)).block := Ne.symm nkr
                      clear rr xx
                      go_wp2_with fail
                      have r8 := (((((R7.out.put 0 (.int .i64 t)).put 1 (.int .i64 (lateT st un tn))).put 2 (.string ⟨u.toArray⟩)).put 3 (.int .i64 f)).put 4 (.int .i64 un))
                      simp at r8
                      have g8 := ((((((I.out.g.fr FX.out (fun h => h)).far (p := ⟨r, 0, none⟩) (Nat.ne_of_lt hgr) (.int .i64 t)).far (p := ⟨r, 1, none⟩) (Nat.ne_of_lt hgr) (.int .i64 (lateT st un tn))).far (p := ⟨r, 2, none⟩) (Nat.ne_of_lt hgr) (.string ⟨u.toArray⟩)).far (p := ⟨r, 3, none⟩) (Nat.ne_of_lt hgr) (.int .i64 f)).far (p := ⟨r, 4, none⟩) (Nat.ne_of_lt hgr) (.int .i64 un))
                      have f8 : Fr (fun b => b = r) wr _ := ((((((FX.out.no (fun b => b = r)).setCell (p := ⟨r, 0, none⟩) (.inl rfl) (.int .i64 t)).setCell (p := ⟨r, 1, none⟩) (.inl rfl) (.int .i64 (lateT st un tn))).setCell (p := ⟨r, 2, none⟩) (.inl rfl) (.string ⟨u.toArray⟩)).setCell (p := ⟨r, 3, none⟩) (.inl rfl) (.int .i64 f)).setCell (p := ⟨r, 4, none⟩) (.inl rfl) (.int .i64 un))
                      generalize (((((wc.setCell ⟨r, 0, none⟩ (.int .i64 t)).setCell ⟨r, 1, none⟩ (.int .i64 (lateT st un tn))).setCell ⟨r, 2, none⟩ (.string ⟨u.toArray⟩)).setCell ⟨r, 3, none⟩ (.int .i64 f)).setCell ⟨r, 4, none⟩ (.int .i64 un)) = w8 at r8 g8 f8 ⊢
                      have R8 := Lib.hid r8
                      have F8 := Lib.hid f8
                      have hla8 := late_any g8 ht1.1 tn
                      clear m0 m1 m2 m3 m4 x0 x1 x2 x3 x4 y0 y1 y2 y3 y4 r8 g8 f8
                      refine hla8.mono ?_
                      clear hla8
                      rintro e w9 ⟨rfl, h1, h2⟩
                      have hb9 := Lib.hid (R8.out.fr h2 (fun e => by have e : r = g := e; omega))
                      have f9 := Lib.hid ((F8.out.mono (F' := fun b => b = r ∨ b = g) (fun b hb _ => .inl hb)).trans h2 (fun b hb hl => .inr hb))
                      have hg9 := Lib.hid h1
                      clear h1 h2
                      go_wp2_with fail
                      go_meet
                      case rel => exact ⟨lateT st un tn, u, f, by omega, hu, I.out.next f9.out (fun b hb e => by omega) Hbc.out (by omega) hig (fun b hb => by omega) hg9.out hb9.out⟩
              | false =>
                as_aux_lemma =>
                  have hIc := I.out.c
                  have c0 := hIc.cell 0
                  have c1 := hIc.cell 1
                  have c2 := hIc.cell 2
                  have c3 := hIc.cell 3
                  have c4 := hIc.cell 4
                  have c5 := hIc.cell 5
                  have c6 := hIc.cell 6
                  have c7 := hIc.cell 7
                  have c8 := hIc.cell 8
                  have c9 := hIc.cell 9
                  have c10 := hIc.cell 10
                  have c11 := hIc.cell 11
                  have c12 := hIc.cell 12
                  have c13 := hIc.cell 13
                  simp only [List.getElem?_toArray, List.getElem?_cons_zero, List.getElem?_cons_succ] at c0 c1 c2 c3 c4 c5 c6 c7 c8 c9 c10 c11 c12 c13
                  clear hIc
                  have hlc := I.out.c.lt
                  have nr3 : r ≠ wr.heap.size + 1 := by omega
                  have nr4 : wr.heap.size + 1 ≠ r := by omega
                  have nc3 : bc ≠ wr.heap.size + 1 := by omega
                  have nc4 : wr.heap.size + 1 ≠ bc := by omega
                  have na3 : (ad.add (k * 4)).block ≠ wr.heap.size + 1 := by omega
                  have na4 : wr.heap.size + 1 ≠ (ad.add (k * 4)).block := by omega
                  have nc1 : bc ≠ wr.heap.size := by omega
                  have nc2 : wr.heap.size ≠ bc := by omega
                  obtain ⟨r', hr'⟩ : ∃ r', loginR t st u f (decide (enterR y.2.2.1 us pw = 0)) us = r' := ⟨_, rfl⟩
                  have Hrl := Lib.hid (fun W' (hf7 : Fr No wr W') => rlogin_any #[.slice AbC nbC kbC, .slice AbG nbG kbG, .slice AbU nbU kbU, .slice AbA nbA kbA, .string ⟨r0.toArray⟩, .string ⟨r1.toArray⟩, .string ⟨r2.toArray⟩, .string ⟨r3.toArray⟩, .string ⟨r4.toArray⟩, .string ⟨r5.toArray⟩, .string ⟨r6.toArray⟩, .string ⟨r7.toArray⟩, .string ⟨r8.toArray⟩, .string ⟨r9.toArray⟩] y us pw W' (Btw (bc + 1) hi) (fun k hk => by have := hk.2; have := hf7.size; omega) (Conf.stable.go I.out.y (Kept.of_no hf7 fun b hb => by have := hb.2; omega) fun b hb => hb) t st u f un (by omega) (by omega) (by omega))
                  rw [hr'] at Hrl
                  have HR' := Lib.hid hr'
                  clear hr'
                  have HS := Lib.hid (fun X (hX : Fr No wr X) => (show X.cell? ⟨r, 0, none⟩ = some (.int .i64 t) ∧ X.cell? ⟨r, 1, none⟩ = some (.int .i64 st) ∧ X.cell? ⟨r, 2, none⟩ = some (.string ⟨u.toArray⟩) ∧ X.cell? ⟨r, 3, none⟩ = some (.int .i64 f) ∧ X.cell? ⟨r, 4, none⟩ = some (.int .i64 un) ∧ X.cell? ⟨bc, 0, none⟩ = some (.slice AbC nbC kbC) ∧ X.cell? ⟨bc, 1, none⟩ = some (.slice AbG nbG kbG) ∧ X.cell? ⟨bc, 2, none⟩ = some (.slice AbU nbU kbU) ∧ X.cell? ⟨bc, 3, none⟩ = some (.slice AbA nbA kbA) ∧ X.cell? ⟨bc, 4, none⟩ = some (.string ⟨r0.toArray⟩) ∧ X.cell? ⟨bc, 5, none⟩ = some (.string ⟨r1.toArray⟩) ∧ X.cell? ⟨bc, 6, none⟩ = some (.string ⟨r2.toArray⟩) ∧ X.cell? ⟨bc, 7, none⟩ = some (.string ⟨r3.toArray⟩) ∧ X.cell? ⟨bc, 8, none⟩ = some (.string ⟨r4.toArray⟩) ∧ X.cell? ⟨bc, 9, none⟩ = some (.string ⟨r5.toArray⟩) ∧ X.cell? ⟨bc, 10, none⟩ = some (.string ⟨r6.toArray⟩) ∧ X.cell? ⟨bc, 11, none⟩ = some (.string ⟨r7.toArray⟩) ∧ X.cell? ⟨bc, 12, none⟩ = some (.string ⟨r8.toArray⟩) ∧ X.cell? ⟨bc, 13, none⟩ = some (.string ⟨r9.toArray⟩) ∧ X.cell? (ad.add (k * 4)) = some (.string ⟨us.toArray⟩) ∧ X.cell? ⟨(ad.add (k * 4)).block, (ad.add (k * 4)).off + 1, none⟩ = some (.string ⟨pw.toArray⟩) from ⟨(hX.cell (p := ⟨r, 0, none⟩) hlr (fun h => h)).trans m0, (hX.cell (p := ⟨r, 1, none⟩) hlr (fun h => h)).trans m1, (hX.cell (p := ⟨r, 2, none⟩) hlr (fun h => h)).trans m2, (hX.cell (p := ⟨r, 3, none⟩) hlr (fun h => h)).trans m3, (hX.cell (p := ⟨r, 4, none⟩) hlr (fun h => h)).trans m4, (hX.cell (p := ⟨bc, 0, none⟩) hlc (fun h => h)).trans c0, (hX.cell (p := ⟨bc, 1, none⟩) hlc (fun h => h)).trans c1, (hX.cell (p := ⟨bc, 2, none⟩) hlc (fun h => h)).trans c2, (hX.cell (p := ⟨bc, 3, none⟩) hlc (fun h => h)).trans c3, (hX.cell (p := ⟨bc, 4, none⟩) hlc (fun h => h)).trans c4, (hX.cell (p := ⟨bc, 5, none⟩) hlc (fun h => h)).trans c5, (hX.cell (p := ⟨bc, 6, none⟩) hlc (fun h => h)).trans c6, (hX.cell (p := ⟨bc, 7, none⟩) hlc (fun h => h)).trans c7, (hX.cell (p := ⟨bc, 8, none⟩) hlc (fun h => h)).trans c8, (hX.cell (p := ⟨bc, 9, none⟩) hlc (fun h => h)).trans c9, (hX.cell (p := ⟨bc, 10, none⟩) hlc (fun h => h)).trans c10, (hX.cell (p := ⟨bc, 11, none⟩) hlc (fun h => h)).trans c11, (hX.cell (p := ⟨bc, 12, none⟩) hlc (fun h => h)).trans c12, (hX.cell (p := ⟨bc, 13, none⟩) hlc (fun h => h)).trans c13, (hX.cell (p := (ad.add (k * 4))) hlw (fun h => h)).trans q0, (hX.cell (p := ⟨(ad.add (k * 4)).block, (ad.add (k * 4)).off + 1, none⟩) hlw (fun h => h)).trans q1⟩))
                  go_upto_region 19 with (fail)
                  go_cut [18, 19] from 57 to 172 (fun a b wx => ∃ (bx ba bt : Nat), a = .pointer (some ⟨bx, 0, none⟩) ∧ b = .pointer (some ⟨ba, 0, none⟩) ∧ Hid (Lay wr bx ba bt 37 47 (.int .i64 t) (.int .i64 r'.1.1) (.string ⟨r'.1.2.1.toArray⟩) (.int .i64 r'.1.2.2) (.int .i64 un) (.int .i64 r'.2.1) (.slice (some ⟨bt, 0, none⟩) 1 1) r'.2.2 wx))
                  case first =>
                    as_aux_lemma =>
                      go_region_held3 (fun w' => w'.cell? ⟨r, 0, none⟩ = some (.int .i64 t) ∧ w'.cell? ⟨r, 1, none⟩ = some (.int .i64 st) ∧ w'.cell? ⟨r, 2, none⟩ = some (.string ⟨u.toArray⟩) ∧ w'.cell? ⟨r, 3, none⟩ = some (.int .i64 f) ∧ w'.cell? ⟨r, 4, none⟩ = some (.int .i64 un) ∧ w'.cell? ⟨bc, 0, none⟩ = some (.slice AbC nbC kbC) ∧ w'.cell? ⟨bc, 1, none⟩ = some (.slice AbG nbG kbG) ∧ w'.cell? ⟨bc, 2, none⟩ = some (.slice AbU nbU kbU) ∧ w'.cell? ⟨bc, 3, none⟩ = some (.slice AbA nbA kbA) ∧ w'.cell? ⟨bc, 4, none⟩ = some (.string ⟨r0.toArray⟩) ∧ w'.cell? ⟨bc, 5, none⟩ = some (.string ⟨r1.toArray⟩) ∧ w'.cell? ⟨bc, 6, none⟩ = some (.string ⟨r2.toArray⟩) ∧ w'.cell? ⟨bc, 7, none⟩ = some (.string ⟨r3.toArray⟩) ∧ w'.cell? ⟨bc, 8, none⟩ = some (.string ⟨r4.toArray⟩) ∧ w'.cell? ⟨bc, 9, none⟩ = some (.string ⟨r5.toArray⟩) ∧ w'.cell? ⟨bc, 10, none⟩ = some (.string ⟨r6.toArray⟩) ∧ w'.cell? ⟨bc, 11, none⟩ = some (.string ⟨r7.toArray⟩) ∧ w'.cell? ⟨bc, 12, none⟩ = some (.string ⟨r8.toArray⟩) ∧ w'.cell? ⟨bc, 13, none⟩ = some (.string ⟨r9.toArray⟩) ∧ w'.cell? (ad.add (k * 4)) = some (.string ⟨us.toArray⟩) ∧ w'.cell? ⟨(ad.add (k * 4)).block, (ad.add (k * 4)).off + 1, none⟩ = some (.string ⟨pw.toArray⟩)) ((refine HS.out _ ?_; repeat' (first | with_reducible assumption | with_reducible exact Fr.refl _ _ | with_reducible refine Fr.drew ?_ | with_reducible refine Fr.alloc ?_ _ | with_reducible refine Fr.setCell ?_ (.inr (by first | exact Nat.le_refl _ | exact Nat.le_succ _ | exact Nat.le_of_lt (by assumption))) _))) ((go_at_call 19; refine (Hrl.out _ (by first | exact (Fr.refl No wr) | exact (Fr.refl No wr).drew | exact ((Fr.refl No wr).alloc (.cells #[.int .i64 0, .int .i64 0, .string ⟨#[]⟩, .int .i64 0, .int .i64 0] 37)) | exact ((Fr.refl No wr).alloc (.cells #[.int .i64 0, .int .i64 0, .string ⟨#[]⟩, .int .i64 0, .int .i64 0] 37)).drew | exact ((Fr.refl No wr).alloc (.cells #[.int .i64 0, nil] 47)) | exact ((Fr.refl No wr).alloc (.cells #[.int .i64 0, nil] 47)).drew | exact (((Fr.refl No wr).alloc (.cells #[.int .i64 0, .int .i64 0, .string ⟨#[]⟩, .int .i64 0, .int .i64 0] 37)).alloc (.cells #[.int .i64 0, nil] 47)) | exact (((Fr.refl No wr).alloc (.cells #[.int .i64 0, .int .i64 0, .string ⟨#[]⟩, .int .i64 0, .int .i64 0] 37)).alloc (.cells #[.int .i64 0, nil] 47)).drew | exact (((Fr.refl No wr).alloc (.cells #[.int .i64 0, nil] 47)).alloc (.cells #[.int .i64 0, .int .i64 0, .string ⟨#[]⟩, .int .i64 0, .int .i64 0] 37)) | exact (((Fr.refl No wr).alloc (.cells #[.int .i64 0, nil] 47)).alloc (.cells #[.int .i64 0, .int .i64 0, .string ⟨#[]⟩, .int .i64 0, .int .i64 0] 37)).drew)).mono ?_; rintro e w7 ⟨bt, rfl, h1, h2, h3⟩; (first | (have hz7 : Fr No ((wr.alloc (.cells #[.int .i64 0, .int .i64 0, .string ⟨#[]⟩, .int .i64 0, .int .i64 0] 37)).alloc (.cells #[.int .i64 0, nil] 47)) w7 := (by first | exact (Fr.refl No ((wr.alloc (.cells #[.int .i64 0, .int .i64 0, .string ⟨#[]⟩, .int .i64 0, .int .i64 0] 37)).alloc (.cells #[.int .i64 0, nil] 47))).then_no h3 | exact (Fr.refl No ((wr.alloc (.cells #[.int .i64 0, .int .i64 0, .string ⟨#[]⟩, .int .i64 0, .int .i64 0] 37)).alloc (.cells #[.int .i64 0, nil] 47))).drew.then_no h3); have hI : Fr No wr w7 := (((Fr.refl No wr).alloc (.cells #[.int .i64 0, .int .i64 0, .string ⟨#[]⟩, .int .i64 0, .int .i64 0] 37)).alloc (.cells #[.int .i64 0, nil] 47)).then_no hz7; have bz0 := ((Blk.new wr 37 #[.int .i64 0, .int .i64 0, .string ⟨#[]⟩, .int .i64 0, .int .i64 0]).alloc (.cells #[.int .i64 0, nil] 47)).fr hz7 (fun h => h); have zcBZ370 := bz0.cell 0; have zfBZ370 := bz0.frozen 0; have zcBZ371 := bz0.cell 1; have zfBZ371 := bz0.frozen 1; have zcBZ372 := bz0.cell 2; have zfBZ372 := bz0.frozen 2; have zcBZ373 := bz0.cell 3; have zfBZ373 := bz0.frozen 3; have zcBZ374 := bz0.cell 4; have zfBZ374 := bz0.frozen 4; simp only [List.getElem?_toArray, List.getElem?_cons_zero, List.getElem?_cons_succ] at zcBZ370 zcBZ371 zcBZ372 zcBZ373 zcBZ374; have BZ37 := Lib.hid bz0; clear bz0; have bz1 := (Blk.new (wr.alloc (.cells #[.int .i64 0, .int .i64 0, .string ⟨#[]⟩, .int .i64 0, .int .i64 0] 37)) 47 #[.int .i64 0, nil]).fr hz7 (fun h => h); rw [size_alloc] at bz1; have zcBZ470 := bz1.cell 0; have zfBZ470 := bz1.frozen 0; have zcBZ471 := bz1.cell 1; have zfBZ471 := bz1.frozen 1; simp only [List.getElem?_toArray, List.getElem?_cons_zero, List.getElem?_cons_succ] at zcBZ470 zcBZ471; have BZ47 := Lib.hid bz1; clear bz1; have hs7 := hz7.size; (try rw [size_alloc] at hs7); (try rw [size_alloc] at hs7); have nn0 : wr.heap.size < w7.heap.size := (by omega); have nn1 : wr.heap.size ≠ w7.heap.size := (by omega); have nn2 : w7.heap.size ≠ wr.heap.size := Ne.symm nn1; have nn3 : r ≠ w7.heap.size := (by omega); have nn4 : w7.heap.size ≠ r := Ne.symm nn3; have nn5 : bc ≠ w7.heap.size := (by omega); have nn6 : w7.heap.size ≠ bc := Ne.symm nn5; have nn7 : (ad.add (k * 4)).block ≠ w7.heap.size := (by omega); have nn8 : w7.heap.size ≠ (ad.add (k * 4)).block := Ne.symm nn7; have HI := Lib.hid hI; have SCrp := Lib.hid (show True from trivial); have hbt : ((wr.alloc (.cells #[.int .i64 0, .int .i64 0, .string ⟨#[]⟩, .int .i64 0, .int .i64 0] 37)).alloc (.cells #[.int .i64 0, nil] 47)).heap.size ≤ bt ∧ bt < w7.heap.size := h2; (try rw [size_alloc] at hbt); (try rw [size_alloc] at hbt); clear hz7 h3 hs7) | (have hz7 : Fr No ((wr.alloc (.cells #[.int .i64 0, nil] 47)).alloc (.cells #[.int .i64 0, .int .i64 0, .string ⟨#[]⟩, .int .i64 0, .int .i64 0] 37)) w7 := (by first | exact (Fr.refl No ((wr.alloc (.cells #[.int .i64 0, nil] 47)).alloc (.cells #[.int .i64 0, .int .i64 0, .string ⟨#[]⟩, .int .i64 0, .int .i64 0] 37))).then_no h3 | exact (Fr.refl No ((wr.alloc (.cells #[.int .i64 0, nil] 47)).alloc (.cells #[.int .i64 0, .int .i64 0, .string ⟨#[]⟩, .int .i64 0, .int .i64 0] 37))).drew.then_no h3); have hI : Fr No wr w7 := (((Fr.refl No wr).alloc (.cells #[.int .i64 0, nil] 47)).alloc (.cells #[.int .i64 0, .int .i64 0, .string ⟨#[]⟩, .int .i64 0, .int .i64 0] 37)).then_no hz7; have bz0 := ((Blk.new wr 47 #[.int .i64 0, nil]).alloc (.cells #[.int .i64 0, .int .i64 0, .string ⟨#[]⟩, .int .i64 0, .int .i64 0] 37)).fr hz7 (fun h => h); have zcBZ470 := bz0.cell 0; have zfBZ470 := bz0.frozen 0; have zcBZ471 := bz0.cell 1; have zfBZ471 := bz0.frozen 1; simp only [List.getElem?_toArray, List.getElem?_cons_zero, List.getElem?_cons_succ] at zcBZ470 zcBZ471; have BZ47 := Lib.hid bz0; clear bz0; have bz1 := (Blk.new (wr.alloc (.cells #[.int .i64 0, nil] 47)) 37 #[.int .i64 0, .int .i64 0, .string ⟨#[]⟩, .int .i64 0, .int .i64 0]).fr hz7 (fun h => h); rw [size_alloc] at bz1; have zcBZ370 := bz1.cell 0; have zfBZ370 := bz1.frozen 0; have zcBZ371 := bz1.cell 1; have zfBZ371 := bz1.frozen 1; have zcBZ372 := bz1.cell 2; have zfBZ372 := bz1.frozen 2; have zcBZ373 := bz1.cell 3; have zfBZ373 := bz1.frozen 3; have zcBZ374 := bz1.cell 4; have zfBZ374 := bz1.frozen 4; simp only [List.getElem?_toArray, List.getElem?_cons_zero, List.getElem?_cons_succ] at zcBZ370 zcBZ371 zcBZ372 zcBZ373 zcBZ374; have BZ37 := Lib.hid bz1; clear bz1; have hs7 := hz7.size; (try rw [size_alloc] at hs7); (try rw [size_alloc] at hs7); have nn0 : wr.heap.size < w7.heap.size := (by omega); have nn1 : wr.heap.size ≠ w7.heap.size := (by omega); have nn2 : w7.heap.size ≠ wr.heap.size := Ne.symm nn1; have nn3 : r ≠ w7.heap.size := (by omega); have nn4 : w7.heap.size ≠ r := Ne.symm nn3; have nn5 : bc ≠ w7.heap.size := (by omega); have nn6 : w7.heap.size ≠ bc := Ne.symm nn5; have nn7 : (ad.add (k * 4)).block ≠ w7.heap.size := (by omega); have nn8 : w7.heap.size ≠ (ad.add (k * 4)).block := Ne.symm nn7; have HI := Lib.hid hI; have SCpr := Lib.hid (show True from trivial); have hbt : ((wr.alloc (.cells #[.int .i64 0, nil] 47)).alloc (.cells #[.int .i64 0, .int .i64 0, .string ⟨#[]⟩, .int .i64 0, .int .i64 0] 37)).heap.size ≤ bt ∧ bt < w7.heap.size := h2; (try rw [size_alloc] at hbt); (try rw [size_alloc] at hbt); clear hz7 h3 hs7) | (have hz7 : Fr No (wr.alloc (.cells #[.int .i64 0, .int .i64 0, .string ⟨#[]⟩, .int .i64 0, .int .i64 0] 37)) w7 := (by first | exact (Fr.refl No (wr.alloc (.cells #[.int .i64 0, .int .i64 0, .string ⟨#[]⟩, .int .i64 0, .int .i64 0] 37))).then_no h3 | exact (Fr.refl No (wr.alloc (.cells #[.int .i64 0, .int .i64 0, .string ⟨#[]⟩, .int .i64 0, .int .i64 0] 37))).drew.then_no h3); have hI : Fr No wr w7 := ((Fr.refl No wr).alloc (.cells #[.int .i64 0, .int .i64 0, .string ⟨#[]⟩, .int .i64 0, .int .i64 0] 37)).then_no hz7; have bz0 := (Blk.new wr 37 #[.int .i64 0, .int .i64 0, .string ⟨#[]⟩, .int .i64 0, .int .i64 0]).fr hz7 (fun h => h); have zaBZ370 : ∀ o, (w7.alloc o).cell? ⟨wr.heap.size, 0, none⟩ = some (.int .i64 0) := fun o => (bz0.alloc o).cell 0; have zgBZ370 : ∀ o, (w7.alloc o).frozen? ⟨wr.heap.size, 0, none⟩ = false := fun o => (bz0.alloc o).frozen 0; have zaBZ371 : ∀ o, (w7.alloc o).cell? ⟨wr.heap.size, 1, none⟩ = some (.int .i64 0) := fun o => (bz0.alloc o).cell 1; have zgBZ371 : ∀ o, (w7.alloc o).frozen? ⟨wr.heap.size, 1, none⟩ = false := fun o => (bz0.alloc o).frozen 1; have zaBZ372 : ∀ o, (w7.alloc o).cell? ⟨wr.heap.size, 2, none⟩ = some (.string ⟨#[]⟩) := fun o => (bz0.alloc o).cell 2; have zgBZ372 : ∀ o, (w7.alloc o).frozen? ⟨wr.heap.size, 2, none⟩ = false := fun o => (bz0.alloc o).frozen 2; have zaBZ373 : ∀ o, (w7.alloc o).cell? ⟨wr.heap.size, 3, none⟩ = some (.int .i64 0) := fun o => (bz0.alloc o).cell 3; have zgBZ373 : ∀ o, (w7.alloc o).frozen? ⟨wr.heap.size, 3, none⟩ = false := fun o => (bz0.alloc o).frozen 3; have zaBZ374 : ∀ o, (w7.alloc o).cell? ⟨wr.heap.size, 4, none⟩ = some (.int .i64 0) := fun o => (bz0.alloc o).cell 4; have zgBZ374 : ∀ o, (w7.alloc o).frozen? ⟨wr.heap.size, 4, none⟩ = false := fun o => (bz0.alloc o).frozen 4; have zcBZ370 := bz0.cell 0; have zfBZ370 := bz0.frozen 0; have zcBZ371 := bz0.cell 1; have zfBZ371 := bz0.frozen 1; have zcBZ372 := bz0.cell 2; have zfBZ372 := bz0.frozen 2; have zcBZ373 := bz0.cell 3; have zfBZ373 := bz0.frozen 3; have zcBZ374 := bz0.cell 4; have zfBZ374 := bz0.frozen 4; simp only [List.getElem?_toArray, List.getElem?_cons_zero, List.getElem?_cons_succ] at zcBZ370 zcBZ371 zcBZ372 zcBZ373 zcBZ374; have BZ37 := Lib.hid bz0; clear bz0; have hs7 := hz7.size; (try rw [size_alloc] at hs7); (try rw [size_alloc] at hs7); have nn0 : wr.heap.size < w7.heap.size := (by omega); have nn1 : wr.heap.size ≠ w7.heap.size := (by omega); have nn2 : w7.heap.size ≠ wr.heap.size := Ne.symm nn1; have nn3 : r ≠ w7.heap.size := (by omega); have nn4 : w7.heap.size ≠ r := Ne.symm nn3; have nn5 : bc ≠ w7.heap.size := (by omega); have nn6 : w7.heap.size ≠ bc := Ne.symm nn5; have nn7 : (ad.add (k * 4)).block ≠ w7.heap.size := (by omega); have nn8 : w7.heap.size ≠ (ad.add (k * 4)).block := Ne.symm nn7; have HI := Lib.hid hI; have SCr := Lib.hid (show True from trivial); have hbt : (wr.alloc (.cells #[.int .i64 0, .int .i64 0, .string ⟨#[]⟩, .int .i64 0, .int .i64 0] 37)).heap.size ≤ bt ∧ bt < w7.heap.size := h2; (try rw [size_alloc] at hbt); (try rw [size_alloc] at hbt); clear hz7 h3 hs7) | (have hz7 : Fr No (wr.alloc (.cells #[.int .i64 0, nil] 47)) w7 := (by first | exact (Fr.refl No (wr.alloc (.cells #[.int .i64 0, nil] 47))).then_no h3 | exact (Fr.refl No (wr.alloc (.cells #[.int .i64 0, nil] 47))).drew.then_no h3); have hI : Fr No wr w7 := ((Fr.refl No wr).alloc (.cells #[.int .i64 0, nil] 47)).then_no hz7; have bz0 := (Blk.new wr 47 #[.int .i64 0, nil]).fr hz7 (fun h => h); have zaBZ470 : ∀ o, (w7.alloc o).cell? ⟨wr.heap.size, 0, none⟩ = some (.int .i64 0) := fun o => (bz0.alloc o).cell 0; have zgBZ470 : ∀ o, (w7.alloc o).frozen? ⟨wr.heap.size, 0, none⟩ = false := fun o => (bz0.alloc o).frozen 0; have zaBZ471 : ∀ o, (w7.alloc o).cell? ⟨wr.heap.size, 1, none⟩ = some (nil) := fun o => (bz0.alloc o).cell 1; have zgBZ471 : ∀ o, (w7.alloc o).frozen? ⟨wr.heap.size, 1, none⟩ = false := fun o => (bz0.alloc o).frozen 1; have zcBZ470 := bz0.cell 0; have zfBZ470 := bz0.frozen 0; have zcBZ471 := bz0.cell 1; have zfBZ471 := bz0.frozen 1; simp only [List.getElem?_toArray, List.getElem?_cons_zero, List.getElem?_cons_succ] at zcBZ470 zcBZ471; have BZ47 := Lib.hid bz0; clear bz0; have hs7 := hz7.size; (try rw [size_alloc] at hs7); (try rw [size_alloc] at hs7); have nn0 : wr.heap.size < w7.heap.size := (by omega); have nn1 : wr.heap.size ≠ w7.heap.size := (by omega); have nn2 : w7.heap.size ≠ wr.heap.size := Ne.symm nn1; have nn3 : r ≠ w7.heap.size := (by omega); have nn4 : w7.heap.size ≠ r := Ne.symm nn3; have nn5 : bc ≠ w7.heap.size := (by omega); have nn6 : w7.heap.size ≠ bc := Ne.symm nn5; have nn7 : (ad.add (k * 4)).block ≠ w7.heap.size := (by omega); have nn8 : w7.heap.size ≠ (ad.add (k * 4)).block := Ne.symm nn7; have HI := Lib.hid hI; have SCp := Lib.hid (show True from trivial); have hbt : (wr.alloc (.cells #[.int .i64 0, nil] 47)).heap.size ≤ bt ∧ bt < w7.heap.size := h2; (try rw [size_alloc] at hbt); (try rw [size_alloc] at hbt); clear hz7 h3 hs7) | (have hz7 : Fr No wr w7 := (by first | exact (Fr.refl No wr).then_no h3 | exact (Fr.refl No wr).drew.then_no h3); have hI : Fr No wr w7 := (Fr.refl No wr).then_no hz7; have hs7 := hz7.size; (try rw [size_alloc] at hs7); (try rw [size_alloc] at hs7); have nn3 : r ≠ w7.heap.size := (by omega); have nn4 : w7.heap.size ≠ r := Ne.symm nn3; have nn5 : bc ≠ w7.heap.size := (by omega); have nn6 : w7.heap.size ≠ bc := Ne.symm nn5; have nn7 : (ad.add (k * 4)).block ≠ w7.heap.size := (by omega); have nn8 : w7.heap.size ≠ (ad.add (k * 4)).block := Ne.symm nn7; have HI := Lib.hid hI; have SCn := Lib.hid (show True from trivial); have hbt : wr.heap.size ≤ bt ∧ bt < w7.heap.size := h2; (try rw [size_alloc] at hbt); (try rw [size_alloc] at hbt); clear hz7 h3 hs7)); have H1 := Lib.hid h1; have H2 := Lib.hid h2; clear h1 h2))
                      all_goals
                        as_aux_lemma =>
                          go_wp2_with fail
                          go_meet
                          case rel =>
                            refine ⟨_, _, bt, rfl, rfl, Lib.hid ?_⟩
                            first
                            | (have hsc := SCrp.out; with_reducible exact lay_rp HI.out H1.out hbt BZ37.out BZ47.out)
                            | (have hsc := SCpr.out; with_reducible exact lay_pr HI.out H1.out hbt BZ37.out BZ47.out)
                            | (have hsc := SCr.out; with_reducible exact lay_r HI.out H1.out hbt BZ37.out)
                            | (have hsc := SCr.out; with_reducible exact lay_r2 HI.out H1.out hbt BZ37.out)
                            | (have hsc := SCp.out; with_reducible exact lay_p2 HI.out H1.out hbt BZ47.out)
                            | (have hsc := SCp.out; with_reducible exact lay_p HI.out H1.out hbt BZ47.out)
                            | (have hsc := SCn.out; with_reducible exact lay_n1 HI.out H1.out hbt)
                            | (have hsc := SCn.out; with_reducible exact lay_n2 HI.out H1.out hbt)
                  case rest =>
                    as_aux_lemma =>
                      obtain ⟨bx, ba, bt, rfl, rfl, L⟩ := hcut
                      have hbx := L.out.hx
                      have hba := L.out.ha
                      have hbt := L.out.ht
                      have nb1 : r ≠ bx := by omega
                      have nb2 : bx ≠ r := by omega
                      have rr := I.out.r.fr L.out.fr (fun h => h)
                      clear m0 m1 m2 m3 m4 c0 c1 c2 c3 c4 c5 c6 c7 c8 c9 c10 c11 c12 c13
                      have m0 := rr.cell 0
                      have m1 := rr.cell 1
                      have m2 := rr.cell 2
                      have m3 := rr.cell 3
                      have m4 := rr.cell 4
                      have y0 := rr.frozen 0
                      have y1 := rr.frozen 1
                      have y2 := rr.frozen 2
                      have y3 := rr.frozen 3
                      have y4 := rr.frozen 4
                      simp only [List.getElem?_toArray, List.getElem?_cons_zero, List.getElem?_cons_succ] at m0 m1 m2 m3 m4
                      have xx := L.out.x
                      have x0 := xx.cell 0
                      have x1 := xx.cell 1
                      have x2 := xx.cell 2
                      have x3 := xx.cell 3
                      have x4 := xx.cell 4
                      simp only [List.getElem?_toArray, List.getElem?_cons_zero, List.getElem?_cons_succ] at x0 x1 x2 x3 x4
                      have R7 := Lib.hid rr
                      clear rr xx
                      have hlbt := L.out.hl
                      have hwc := L.out.fr.size
                      go_wp2_with fail
                      have hbr : bc ≠ r := by omega
                      have har : ba ≠ r := by omega
                      have rb8 := (((((R7.out.put 0 (.int .i64 t)).put 1 (.int .i64 r'.1.1)).put 2 (.string ⟨r'.1.2.1.toArray⟩)).put 3 (.int .i64 r'.1.2.2)).put 4 (.int .i64 un))
                      simp at rb8
                      have g8 := ((((((I.out.g.fr L.out.fr (fun h => h)).far (p := ⟨r, 0, none⟩) (Nat.ne_of_lt hgr) (.int .i64 t)).far (p := ⟨r, 1, none⟩) (Nat.ne_of_lt hgr) (.int .i64 r'.1.1)).far (p := ⟨r, 2, none⟩) (Nat.ne_of_lt hgr) (.string ⟨r'.1.2.1.toArray⟩)).far (p := ⟨r, 3, none⟩) (Nat.ne_of_lt hgr) (.int .i64 r'.1.2.2)).far (p := ⟨r, 4, none⟩) (Nat.ne_of_lt hgr) (.int .i64 un))
                      have cb8 := ((((((I.out.c.fr L.out.fr (fun h => h)).far (p := ⟨r, 0, none⟩) hbr (.int .i64 t)).far (p := ⟨r, 1, none⟩) hbr (.int .i64 r'.1.1)).far (p := ⟨r, 2, none⟩) hbr (.string ⟨r'.1.2.1.toArray⟩)).far (p := ⟨r, 3, none⟩) hbr (.int .i64 r'.1.2.2)).far (p := ⟨r, 4, none⟩) hbr (.int .i64 un))
                      have a8 := (((((L.out.a.far (p := ⟨r, 0, none⟩) har (.int .i64 t)).far (p := ⟨r, 1, none⟩) har (.int .i64 r'.1.1)).far (p := ⟨r, 2, none⟩) har (.string ⟨r'.1.2.1.toArray⟩)).far (p := ⟨r, 3, none⟩) har (.int .i64 r'.1.2.2)).far (p := ⟨r, 4, none⟩) har (.int .i64 un))
                      have f8 : Fr (fun b => b = r) wr _ := ((((((L.out.fr.no (fun b => b = r)).setCell (p := ⟨r, 0, none⟩) (.inl rfl) (.int .i64 t)).setCell (p := ⟨r, 1, none⟩) (.inl rfl) (.int .i64 r'.1.1)).setCell (p := ⟨r, 2, none⟩) (.inl rfl) (.string ⟨r'.1.2.1.toArray⟩)).setCell (p := ⟨r, 3, none⟩) (.inl rfl) (.int .i64 r'.1.2.2)).setCell (p := ⟨r, 4, none⟩) (.inl rfl) (.int .i64 un))
                      have f88 : Fr (fun b => b = r) wc _ := ((((((Fr.refl (fun b => b = r) wc).setCell (p := ⟨r, 0, none⟩) (.inl rfl) (.int .i64 t)).setCell (p := ⟨r, 1, none⟩) (.inl rfl) (.int .i64 r'.1.1)).setCell (p := ⟨r, 2, none⟩) (.inl rfl) (.string ⟨r'.1.2.1.toArray⟩)).setCell (p := ⟨r, 3, none⟩) (.inl rfl) (.int .i64 r'.1.2.2)).setCell (p := ⟨r, 4, none⟩) (.inl rfl) (.int .i64 un))
                      generalize (((((wc.setCell ⟨r, 0, none⟩ (.int .i64 t)).setCell ⟨r, 1, none⟩ (.int .i64 r'.1.1)).setCell ⟨r, 2, none⟩ (.string ⟨r'.1.2.1.toArray⟩)).setCell ⟨r, 3, none⟩ (.int .i64 r'.1.2.2)).setCell ⟨r, 4, none⟩ (.int .i64 un)) = w8 at rb8 g8 cb8 a8 f8 f88 ⊢
                      have hlt8 : bt < w8.heap.size := Nat.lt_of_lt_of_le hlbt f88.size
                      have T8 := Lib.hid ((f88.cell (p := ⟨bt, 0, none⟩) hlbt (fun e => by have e : bt = r := e; omega)).trans L.out.t)
                      have Y8 := Lib.hid (Conf.stable.go I.out.y (Kept.of_fr f8 fun b hb => ⟨by have := hb.2; omega, fun e => by have e : b = r := e; have := hb.2; omega⟩) fun b hb => hb)
                      have q0 := (f8.cell (p := (ad.add (k * 4))) hlw (fun e => by have e : (ad.add (k * 4)).block = r := e; have := Hbc.out; omega)).trans q0
                      have q1 := (f8.cell (p := ⟨(ad.add (k * 4)).block, (ad.add (k * 4)).off + 1, none⟩) hlw (fun e => by have e : (ad.add (k * 4)).block = r := e; have := Hbc.out; omega)).trans q1
                      have c0 := cb8.cell 0
                      have c1 := cb8.cell 1
                      have c2 := cb8.cell 2
                      have c3 := cb8.cell 3
                      have c4 := cb8.cell 4
                      have c5 := cb8.cell 5
                      have c6 := cb8.cell 6
                      have c7 := cb8.cell 7
                      have c8 := cb8.cell 8
                      have c9 := cb8.cell 9
                      have c10 := cb8.cell 10
                      have c11 := cb8.cell 11
                      have c12 := cb8.cell 12
                      have c13 := cb8.cell 13
                      simp only [List.getElem?_toArray, List.getElem?_cons_zero, List.getElem?_cons_succ] at c0 c1 c2 c3 c4 c5 c6 c7 c8 c9 c10 c11 c12 c13
                      have a0 := a8.cell 0
                      have a1 := a8.cell 1
                      simp only [List.getElem?_toArray, List.getElem?_cons_zero, List.getElem?_cons_succ] at a0 a1
                      have hlw8 : (ad.add (k * 4)).block < w8.heap.size := Nat.lt_of_lt_of_le hlw f8.size
                      have ngc : ¬ Just g bc := fun e => by have e : bc = g := e; omega
                      have nga : ¬ Just g (ad.add (k * 4)).block := fun e => by have e : (ad.add (k * 4)).block = g := e; have := Hbc.out; omega
                      have ngb : ¬ Just g ba := fun e => by have e : ba = g := e; omega
                      have ngt : ¬ Just g bt := fun e => by have e : bt = g := e; omega
                      have ngr : ¬ Just g r := fun e => by have e : r = g := e; omega
                      have HS2 := Lib.hid (fun X (hX : Fr (Just g) w8 X) => (show X.cell? ⟨bc, 0, none⟩ = some (.slice AbC nbC kbC) ∧ X.cell? ⟨bc, 1, none⟩ = some (.slice AbG nbG kbG) ∧ X.cell? ⟨bc, 2, none⟩ = some (.slice AbU nbU kbU) ∧ X.cell? ⟨bc, 3, none⟩ = some (.slice AbA nbA kbA) ∧ X.cell? ⟨bc, 4, none⟩ = some (.string ⟨r0.toArray⟩) ∧ X.cell? ⟨bc, 5, none⟩ = some (.string ⟨r1.toArray⟩) ∧ X.cell? ⟨bc, 6, none⟩ = some (.string ⟨r2.toArray⟩) ∧ X.cell? ⟨bc, 7, none⟩ = some (.string ⟨r3.toArray⟩) ∧ X.cell? ⟨bc, 8, none⟩ = some (.string ⟨r4.toArray⟩) ∧ X.cell? ⟨bc, 9, none⟩ = some (.string ⟨r5.toArray⟩) ∧ X.cell? ⟨bc, 10, none⟩ = some (.string ⟨r6.toArray⟩) ∧ X.cell? ⟨bc, 11, none⟩ = some (.string ⟨r7.toArray⟩) ∧ X.cell? ⟨bc, 12, none⟩ = some (.string ⟨r8.toArray⟩) ∧ X.cell? ⟨bc, 13, none⟩ = some (.string ⟨r9.toArray⟩) ∧ X.cell? (ad.add (k * 4)) = some (.string ⟨us.toArray⟩) ∧ X.cell? ⟨(ad.add (k * 4)).block, (ad.add (k * 4)).off + 1, none⟩ = some (.string ⟨pw.toArray⟩) ∧ X.cell? ⟨ba, 0, none⟩ = some (.int .i64 r'.2.1) ∧ X.cell? ⟨ba, 1, none⟩ = some (.slice (some ⟨bt, 0, none⟩) 1 1) from ⟨(hX.cell (p := ⟨bc, 0, none⟩) cb8.lt ngc).trans c0, (hX.cell (p := ⟨bc, 1, none⟩) cb8.lt ngc).trans c1, (hX.cell (p := ⟨bc, 2, none⟩) cb8.lt ngc).trans c2, (hX.cell (p := ⟨bc, 3, none⟩) cb8.lt ngc).trans c3, (hX.cell (p := ⟨bc, 4, none⟩) cb8.lt ngc).trans c4, (hX.cell (p := ⟨bc, 5, none⟩) cb8.lt ngc).trans c5, (hX.cell (p := ⟨bc, 6, none⟩) cb8.lt ngc).trans c6, (hX.cell (p := ⟨bc, 7, none⟩) cb8.lt ngc).trans c7, (hX.cell (p := ⟨bc, 8, none⟩) cb8.lt ngc).trans c8, (hX.cell (p := ⟨bc, 9, none⟩) cb8.lt ngc).trans c9, (hX.cell (p := ⟨bc, 10, none⟩) cb8.lt ngc).trans c10, (hX.cell (p := ⟨bc, 11, none⟩) cb8.lt ngc).trans c11, (hX.cell (p := ⟨bc, 12, none⟩) cb8.lt ngc).trans c12, (hX.cell (p := ⟨bc, 13, none⟩) cb8.lt ngc).trans c13, (hX.cell (p := (ad.add (k * 4))) hlw8 nga).trans q0, (hX.cell (p := ⟨(ad.add (k * 4)).block, (ad.add (k * 4)).off + 1, none⟩) hlw8 nga).trans q1, (hX.cell (p := ⟨ba, 0, none⟩) a8.lt ngb).trans a0, (hX.cell (p := ⟨ba, 1, none⟩) a8.lt ngb).trans a1⟩))
                      have hs8 := f8.size
                      have Hlg := Lib.hid (fun W' (hf7 : Fr No w8 W') => login_any #[.slice AbC nbC kbC, .slice AbG nbG kbG, .slice AbU nbU kbU, .slice AbA nbA kbA, .string ⟨r0.toArray⟩, .string ⟨r1.toArray⟩, .string ⟨r2.toArray⟩, .string ⟨r3.toArray⟩, .string ⟨r4.toArray⟩, .string ⟨r5.toArray⟩, .string ⟨r6.toArray⟩, .string ⟨r7.toArray⟩, .string ⟨r8.toArray⟩, .string ⟨r9.toArray⟩] y us pw W' (Btw (bc + 1) hi) (fun k hk => by have := hk.2; have := hf7.size; omega) (Conf.stable.go Y8.out (Kept.of_no hf7 fun b hb => by have := hb.2; omega) fun b hb => hb) g t wt st u f un (g8.fr hf7 (fun h => h)) ht1.1 (by omega) (by omega) (by omega))
                      rw [HR'.out] at Hlg
                      have R8 := Lib.hid rb8
                      have F8 := Lib.hid f8
                      clear rb8 g8 cb8 a8 f8 f88 x0 x1 x2 x3 x4 m0 m1 m2 m3 m4 y0 y1 y2 y3 y4
                      go_region_held3 (fun w' => w'.cell? ⟨bc, 0, none⟩ = some (.slice AbC nbC kbC) ∧ w'.cell? ⟨bc, 1, none⟩ = some (.slice AbG nbG kbG) ∧ w'.cell? ⟨bc, 2, none⟩ = some (.slice AbU nbU kbU) ∧ w'.cell? ⟨bc, 3, none⟩ = some (.slice AbA nbA kbA) ∧ w'.cell? ⟨bc, 4, none⟩ = some (.string ⟨r0.toArray⟩) ∧ w'.cell? ⟨bc, 5, none⟩ = some (.string ⟨r1.toArray⟩) ∧ w'.cell? ⟨bc, 6, none⟩ = some (.string ⟨r2.toArray⟩) ∧ w'.cell? ⟨bc, 7, none⟩ = some (.string ⟨r3.toArray⟩) ∧ w'.cell? ⟨bc, 8, none⟩ = some (.string ⟨r4.toArray⟩) ∧ w'.cell? ⟨bc, 9, none⟩ = some (.string ⟨r5.toArray⟩) ∧ w'.cell? ⟨bc, 10, none⟩ = some (.string ⟨r6.toArray⟩) ∧ w'.cell? ⟨bc, 11, none⟩ = some (.string ⟨r7.toArray⟩) ∧ w'.cell? ⟨bc, 12, none⟩ = some (.string ⟨r8.toArray⟩) ∧ w'.cell? ⟨bc, 13, none⟩ = some (.string ⟨r9.toArray⟩) ∧ w'.cell? (ad.add (k * 4)) = some (.string ⟨us.toArray⟩) ∧ w'.cell? ⟨(ad.add (k * 4)).block, (ad.add (k * 4)).off + 1, none⟩ = some (.string ⟨pw.toArray⟩) ∧ w'.cell? ⟨ba, 0, none⟩ = some (.int .i64 r'.2.1) ∧ w'.cell? ⟨ba, 1, none⟩ = some (.slice (some ⟨bt, 0, none⟩) 1 1)) ((refine HS2.out _ ?_; repeat' (first | with_reducible assumption | with_reducible exact Fr.refl _ _ | with_reducible refine Fr.drew ?_))) ((first | (go_at_call 21; refine (Hlg.out _ (by first | exact Fr.refl _ _ | exact (Fr.refl No w8).drew)).mono ?_; intro e w9 hp; obtain ⟨b9, rfl, i1, i2, i3, i4⟩ := hp; have hJ : Fr (Just g) w8 w9 := (by first | exact i3 | exact ((Fr.refl (Just g) w8).drew).trans i3 (fun b hb hl => hb)); have kbt := (hJ.cell (p := ⟨bt, 0, none⟩) hlt8 ngt).trans T8.out; have hl9 : b9 < w9.heap.size := i2.2; have hlt9 : bt < w9.heap.size := Nat.lt_of_lt_of_le hlt8 hJ.size; have I1 := Lib.hid i1; have KBT := Lib.hid kbt; have I4 := Lib.hid i4; have R9 := Lib.hid (R8.out.fr hJ ngr); have HJ := Lib.hid hJ; clear i1 kbt i2 i3 i4) | (go_at_call 20; refine (same_any r'.2.1 b9 bt r'.2.2 _ ?_ ?_ ?_ ?_).mono ?_; exact I1.out; exact hl9; exact KBT.out; exact hlt9; rintro e w10 ⟨rfl, hf10⟩; have hJ2 : Fr No w9 w10 := (by first | exact hf10 | exact ((Fr.refl No w9).drew).then_no hf10); have hJ : Fr (Just g) w8 w10 := HJ.out.then_no hJ2; have HJ2 := Lib.hid hJ2; have HJW := Lib.hid hJ; clear hf10 hJ2)))
                      all_goals
                        as_aux_lemma =>
                          go_wp2_with fail
                          go_meet
                          case rel =>
                            have hb := login_bnd t st u f (decide (enterR y.2.2.1 us pw = 0)) us
                            rw [HR'.out] at hb
                            exact ⟨r'.1.1, r'.1.2.1, r'.1.2.2, by omega, by omega, I.out.next ((F8.out.mono (F' := fun b => b = r ∨ b = g) (fun b hb _ => .inl hb)).trans HJW.out (fun b hb hl => .inr hb)) (fun b hb e => by omega) Hbc.out (by omega) hig (fun b hb => by omega) (I4.out.fr HJ2.out (fun h => h)) (R9.out.fr HJ2.out (fun h => h))⟩
          case rest =>
            as_aux_lemma =>
              clear q0 q1 q2 q3 hw3 I
              obtain ⟨st', u', f', hf', hu', I⟩ := hcut
              have hI0 := I.out.r
              have m0 := hI0.cell 0
              have m1 := hI0.cell 1
              have m2 := hI0.cell 2
              have m3 := hI0.cell 3
              have m4 := hI0.cell 4
              simp only [List.getElem?_toArray, List.getElem?_cons_zero, List.getElem?_cons_succ] at m0 m1 m2 m3 m4
              clear hI0
              have G := Lib.hid I.out.g
              by_cases e1 : st' = 1
              · all_goals
                  as_aux_lemma =>
                    subst e1
                    have hU : userS 1 u' = u' := by simp [userS]
                    have hN : untilS 1 un = 0 := by simp [untilS]

                    go_wp2_with (go_at_call 22; refine (until_any G.out ht1.1).mono ?_; rintro e w7 ⟨rfl, rfl⟩; rw [hN])
                    go_quiet ((first | (go_at_call 23; exact quiet_left (state_any (G.out.fr ((Fr.refl No _).drewN _) (fun h => h)) ht1.1)) | (go_at_call 24; exact quiet_left ((user_any (G.out.fr ((Fr.refl No _).drewN _) (fun h => h)) ht1.1).mono fun e w' h => ⟨h.1.trans (by rw [hU]), h.2⟩)) | (go_at_call 25; exact quiet_left (fails_any (G.out.fr ((Fr.refl No _).drewN _) (fun h => h)) ht1.1))))
                    go_wp2_with fail
                    go_roundw
                    case rel => exact ⟨k + 1, _, u', f', by go_num, by omega, by omega, hu', I.out.no ((Fr.refl No _).drewN _) Hbc.out (by omega) hig⟩
                    case measure => simp [intOf]; omega
              · by_cases e0 : st' = 0
                · all_goals
                    as_aux_lemma =>
                      subst e0
                      have hU : userS 0 u' = [] := by simp [userS]
                      have hN : untilS 0 un = un := by simp [untilS]

                      go_wp2_with (go_at_call 22; refine (until_any G.out ht1.1).mono ?_; rintro e w7 ⟨rfl, rfl⟩; rw [hN])
                      go_quiet ((first | (go_at_call 23; exact quiet_left (state_any (G.out.fr ((Fr.refl No _).drewN _) (fun h => h)) ht1.1)) | (go_at_call 24; exact quiet_left ((user_any (G.out.fr ((Fr.refl No _).drewN _) (fun h => h)) ht1.1).mono fun e w' h => ⟨h.1.trans (by rw [hU]), h.2⟩)) | (go_at_call 25; exact quiet_left (fails_any (G.out.fr ((Fr.refl No _).drewN _) (fun h => h)) ht1.1))))
                      go_wp2_with fail
                      go_roundw
                      case rel => exact ⟨k + 1, _, u', f', by go_num, by omega, by omega, hu', I.out.no ((Fr.refl No _).drewN _) Hbc.out (by omega) hig⟩
                      case measure => simp [intOf]; omega
                · all_goals
                    as_aux_lemma =>
                      have b1 : (st' == 1) = false := by simpa using e1
                      have b0 : (st' == 0) = false := by simpa using e0
                      have hU : userS st' u' = [] := by simp [userS, e1]
                      have hN : untilS st' un = 0 := by simp [untilS, e0]

                      go_wp2_with (go_at_call 22; refine (until_any G.out ht1.1).mono ?_; rintro e w7 ⟨rfl, rfl⟩; rw [hN])
                      go_quiet ((first | (go_at_call 23; exact quiet_left (state_any (G.out.fr ((Fr.refl No _).drewN _) (fun h => h)) ht1.1)) | (go_at_call 24; exact quiet_left ((user_any (G.out.fr ((Fr.refl No _).drewN _) (fun h => h)) ht1.1).mono fun e w' h => ⟨h.1.trans (by rw [hU]), h.2⟩)) | (go_at_call 25; exact quiet_left (fails_any (G.out.fr ((Fr.refl No _).drewN _) (fun h => h)) ht1.1))))
                      go_wp2_with fail
                      go_roundw
                      case rel => exact ⟨k + 1, _, u', f', by go_num, by omega, by omega, hu', I.out.no ((Fr.refl No _).drewN _) Hbc.out (by omega) hig⟩
                      case measure => simp [intOf]; omega
      · go_wp2_with (go_at_call 13; refine (works_any _).mono ?_; rintro e w9 ⟨rfl, hf9⟩; have Hf9 := Lib.hid hf9; clear hf9)
        go_ret
        exact ⟨rfl, I.out.fr.then_no Hf9.out⟩
  · have hnz : (nr == 0) = false := by simpa using hz
    refine (new_any t wt now _ h3b).mono ?_
    intro e w4 hp
    obtain ⟨rfl, hf4⟩ := hp.no (by rw [← HN.out]; exact hz)
    rw [← HN.out]
    have F4 := Lib.hid (F3.out.then_no hf4)
    clear hp hf4 hz
    go_wp2_with fail
    refine (rnew_any t wt now _ h3b).mono ?_
    intro e w5 hp
    obtain ⟨rfl, hf5⟩ := hp.no (by rw [← HN.out]; intro h; rw [h] at hnz; cases hnz)
    rw [← HN.out]
    have F5 := Lib.hid (F4.out.then_no hf5)
    clear hp hf5
    go_wp2_with (go_at_call 13; refine (works_any _).mono ?_; rintro e w9 ⟨rfl, hf9⟩; have Hf9 := Lib.hid hf9; clear hf9)
    go_ret
    exact ⟨rfl, (F5.out.alloc _).then_no Hf9.out⟩
end Gate
end Go.Proofs.Ytllnaflknnkgiaa
