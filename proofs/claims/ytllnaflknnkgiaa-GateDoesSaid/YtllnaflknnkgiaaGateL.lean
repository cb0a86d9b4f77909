/- Package gate: Login. Printed by gen_gate.py. -/
import Derived.Test.YtllnaflknnkgiaaGateN
namespace Go.Proofs.Ytllnaflknnkgiaa
open Go.RowKit
set_option linter.unusedVariables false
set_option linter.unusedSimpArgs false
namespace Gate
open Conf
theorem conf_cells {w : World} {S : Nat → Prop} {c0 : Array Value} {x : C} (h : RConf w S c0.toList x) : ∃ (AC AG AU AA : Option Addr) (nC kC nG kG nU kU nA kA : Nat) (s0 s1 s2 s3 s4 s5 s6 s7 s8 s9 : Str), c0 = #[.slice AC nC kC, .slice AG nG kG, .slice AU nU kU, .slice AA nA kA, .string ⟨s0.toArray⟩, .string ⟨s1.toArray⟩, .string ⟨s2.toArray⟩, .string ⟨s3.toArray⟩, .string ⟨s4.toArray⟩, .string ⟨s5.toArray⟩, .string ⟨s6.toArray⟩, .string ⟨s7.toArray⟩, .string ⟨s8.toArray⟩, .string ⟨s9.toArray⟩] := by
  obtain ⟨vC, vG, vU, vA, bs, rfl, hC, hG, hU, hA, hB⟩ := conf_open h
  obtain ⟨AC, kC, rfl, -, -⟩ := hC.slice
  obtain ⟨AG, kG, rfl, -, -⟩ := hG.slice
  obtain ⟨AU, kU, rfl, -, -⟩ := hU.slice
  obtain ⟨AA, kA, rfl, -, -⟩ := hA.slice
  obtain ⟨hB1, hb⟩ := arr_get hB
  clear hC hG hU hA hB h
  obtain ⟨b0, b1, b2, b3, b4, b5, b6, b7, b8, b9, rfl⟩ := list10 hB1
  obtain ⟨s0, d0, -⟩ := hb 0 (by omega)
  simp at d0
  subst d0
  obtain ⟨s1, d1, -⟩ := hb 1 (by omega)
  simp at d1
  subst d1
  obtain ⟨s2, d2, -⟩ := hb 2 (by omega)
  simp at d2
  subst d2
  obtain ⟨s3, d3, -⟩ := hb 3 (by omega)
  simp at d3
  subst d3
  obtain ⟨s4, d4, -⟩ := hb 4 (by omega)
  simp at d4
  subst d4
  obtain ⟨s5, d5, -⟩ := hb 5 (by omega)
  simp at d5
  subst d5
  obtain ⟨s6, d6, -⟩ := hb 6 (by omega)
  simp at d6
  subst d6
  obtain ⟨s7, d7, -⟩ := hb 7 (by omega)
  simp at d7
  subst d7
  obtain ⟨s8, d8, -⟩ := hb 8 (by omega)
  simp at d8
  subst d8
  obtain ⟨s9, d9, -⟩ := hb 9 (by omega)
  simp at d9
  subst d9
  exact ⟨AC, AG, AU, AA, _, kC, _, kG, _, kU, _, kA, s0, s1, s2, s3, s4, s5, s6, s7, s8, s9, rfl⟩
theorem enter_vals (us : List Usr) (user pass : Str) : enterR us user pass = 0 ∨ enterR us user pass = 7 ∨ enterR us user pass = 10 := by
  unfold enterR
  split
  · exact .inr (.inl rfl)
  · split
    · exact .inl rfl
    · exact .inr (.inr rfl)
theorem login_ok {t st : Int} {u : Str} {f : Int} {ok : Bool} {user : Str} (h1 : ¬ st = 1) (h2 : ¬ st = 2) (h : ok = true) : loginR t st u f ok user = ((1, user, f), (230, welcome user)) := by unfold loginR; rw [if_neg h1, if_neg h2, if_pos h]
theorem login_no {t st : Int} {u : Str} {f : Int} {ok : Bool} {user : Str} (h1 : ¬ st = 1) (h2 : ¬ st = 2) (h : ok = false) (h3 : f + 1 < t) : loginR t st u f ok user = ((st, u, f + 1), (430, noSuch)) := by
  unfold loginR; rw [if_neg h1, if_neg h2, if_neg (by rw [h]; decide), if_pos h3]
theorem login_end {t st : Int} {u : Str} {f : Int} {ok : Bool} {user : Str} (h1 : ¬ st = 1) (h2 : ¬ st = 2) (h : ok = false) (h3 : ¬ f + 1 < t) : loginR t st u f ok user = ((2, u, f + 1), (421, tooMany)) := by
  unfold loginR; rw [if_neg h1, if_neg h2, if_neg (by rw [h]; decide), if_neg h3]
def LogIs (w : World) (g : Nat) (t wt un : Int) (r : (Int × Str × Int) × (Int × ByteArray)) (e : Ending) (w' : World) : Prop :=
  ∃ b, e = .returned (.agg #[.int .i64 r.2.1, .slice (some ⟨b, 0, none⟩) 1 1]) ∧ w'.cell? ⟨b, 0, none⟩ = some (.string r.2.2) ∧ New w w' b ∧ Fr (Just g) w w' ∧ GAt w' g t wt r.1.1 r.1.2.1 r.1.2.2 un
set_option maxRecDepth 100000 in
set_option maxHeartbeats 4000000 in
theorem login_any (c0 : Array Value) (x : C) (user pass : Str) (w : World) (S : Nat → Prop) (hS : ∀ k, S k → k < w.heap.size) (h : RConf w S c0.toList x) (g : Nat) (t wt st : Int) (u : Str) (f un : Int) (hg : GAt w g t wt st u f un) (ht : 1 ≤ t)
    (hf : 0 ≤ f ∧ f ≤ 1000) (hu : u.length ≤ 1000) (hus : user.length ≤ 1000) :
    Calls Try.prog 21 #[.pointer (some ⟨g, 0, none⟩), .agg c0, .string ⟨user.toArray⟩, .string ⟨pass.toArray⟩] w (LogIs w g t wt un (loginR t st u f (decide (enterR x.2.2.1 user pass = 0)) user)) := by
  obtain ⟨AC, AG, AU, AA, nC, kC, nG, kG, nU, kU, nA, kA, s0, s1, s2, s3, s4, s5, s6, s7, s8, s9, hc0⟩ := conf_cells h
  rw [hc0] at h ⊢
  clear hc0
  have hW2 : Fr No w ((w.alloc (.cells #[.slice AC nC kC, .slice AG nG kG, .slice AU nU kU, .slice AA nA kA, .string ⟨s0.toArray⟩, .string ⟨s1.toArray⟩, .string ⟨s2.toArray⟩, .string ⟨s3.toArray⟩, .string ⟨s4.toArray⟩, .string ⟨s5.toArray⟩, .string ⟨s6.toArray⟩, .string ⟨s7.toArray⟩, .string ⟨s8.toArray⟩, .string ⟨s9.toArray⟩] 28)).alloc (.cells #[.int .i64 0, nil] 47)) := ((Fr.refl No w).alloc _).alloc _
  have hb := (Blk.new w 28 #[.slice AC nC kC, .slice AG nG kG, .slice AU nU kU, .slice AA nA kA, .string ⟨s0.toArray⟩, .string ⟨s1.toArray⟩, .string ⟨s2.toArray⟩, .string ⟨s3.toArray⟩, .string ⟨s4.toArray⟩, .string ⟨s5.toArray⟩, .string ⟨s6.toArray⟩, .string ⟨s7.toArray⟩, .string ⟨s8.toArray⟩, .string ⟨s9.toArray⟩]).alloc (.cells #[.int .i64 0, nil] 47)
  have hr := Blk.new (w.alloc (.cells #[.slice AC nC kC, .slice AG nG kG, .slice AU nU kU, .slice AA nA kA, .string ⟨s0.toArray⟩, .string ⟨s1.toArray⟩, .string ⟨s2.toArray⟩, .string ⟨s3.toArray⟩, .string ⟨s4.toArray⟩, .string ⟨s5.toArray⟩, .string ⟨s6.toArray⟩, .string ⟨s7.toArray⟩, .string ⟨s8.toArray⟩, .string ⟨s9.toArray⟩] 28)) 47 #[.int .i64 0, nil]
  have hsz : ((w.alloc (.cells #[.slice AC nC kC, .slice AG nG kG, .slice AU nU kU, .slice AA nA kA, .string ⟨s0.toArray⟩, .string ⟨s1.toArray⟩, .string ⟨s2.toArray⟩, .string ⟨s3.toArray⟩, .string ⟨s4.toArray⟩, .string ⟨s5.toArray⟩, .string ⟨s6.toArray⟩, .string ⟨s7.toArray⟩, .string ⟨s8.toArray⟩, .string ⟨s9.toArray⟩] 28)).alloc (.cells #[.int .i64 0, nil] 47)).heap.size = w.heap.size + 1 + 1 := by rw [size_alloc, size_alloc]
  rw [size_alloc] at hr
  have hg2 : GAt ((w.alloc (.cells #[.slice AC nC kC, .slice AG nG kG, .slice AU nU kU, .slice AA nA kA, .string ⟨s0.toArray⟩, .string ⟨s1.toArray⟩, .string ⟨s2.toArray⟩, .string ⟨s3.toArray⟩, .string ⟨s4.toArray⟩, .string ⟨s5.toArray⟩, .string ⟨s6.toArray⟩, .string ⟨s7.toArray⟩, .string ⟨s8.toArray⟩, .string ⟨s9.toArray⟩] 28)).alloc (.cells #[.int .i64 0, nil] 47)) g t wt st u f un := (hg.alloc _).alloc _
  have hgl := hg.lt
  have hen := enter_any #[.slice AC nC kC, .slice AG nG kG, .slice AU nU kU, .slice AA nA kA, .string ⟨s0.toArray⟩, .string ⟨s1.toArray⟩, .string ⟨s2.toArray⟩, .string ⟨s3.toArray⟩, .string ⟨s4.toArray⟩, .string ⟨s5.toArray⟩, .string ⟨s6.toArray⟩, .string ⟨s7.toArray⟩, .string ⟨s8.toArray⟩, .string ⟨s9.toArray⟩] x user pass _ S (fun k hk => Nat.lt_of_lt_of_le (hS k hk) hW2.size) (Conf.stable.go h (Kept.of_no hW2 hS) fun b hb => hb)
  obtain ⟨er, hEr⟩ : ∃ er, er = enterR x.2.2.1 user pass := ⟨_, rfl⟩
  rw [← hEr] at hen ⊢
  have hvals : er = 0 ∨ er = 7 ∨ er = 10 := by rw [hEr]; exact enter_vals _ _ _
  clear hEr
  go_enter Try.func21, Try.ntmps21
  have Hsz0 := Lib.hid hsz
  clear hsz
  go_wp2_with fail
  generalize ((w.alloc (.cells #[.slice AC nC kC, .slice AG nG kG, .slice AU nU kU, .slice AA nA kA, .string ⟨s0.toArray⟩, .string ⟨s1.toArray⟩, .string ⟨s2.toArray⟩, .string ⟨s3.toArray⟩, .string ⟨s4.toArray⟩, .string ⟨s5.toArray⟩, .string ⟨s6.toArray⟩, .string ⟨s7.toArray⟩, .string ⟨s8.toArray⟩, .string ⟨s9.toArray⟩] 28)).alloc (.cells #[.int .i64 0, nil] 47)) = W2 at hW2 hb hr Hsz0 hg2 hen ⊢
  have hsz := Hsz0.out
  obtain ⟨bc, hbc⟩ : ∃ bc, w.heap.size = bc := ⟨_, rfl⟩
  rw [hbc] at hb hr hsz hgl ⊢
  obtain ⟨br, hbr⟩ : ∃ br, bc + 1 = br := ⟨_, rfl⟩
  rw [hbr] at hr hsz ⊢
  have hst := state_any hg2 ht
  have k3 := hg2.cell 3
  simp at k3
  have c0 := hb.cell 0
  have c1 := hb.cell 1
  have c2 := hb.cell 2
  have c3 := hb.cell 3
  have c4 := hb.cell 4
  have c5 := hb.cell 5
  have c6 := hb.cell 6
  have c7 := hb.cell 7
  have c8 := hb.cell 8
  have c9 := hb.cell 9
  have c10 := hb.cell 10
  have c11 := hb.cell 11
  have c12 := hb.cell 12
  have c13 := hb.cell 13
  simp only [List.getElem?_toArray, List.getElem?_cons_zero, List.getElem?_cons_succ] at c0 c1 c2 c3 c4 c5 c6 c7 c8 c9 c10 c11 c12 c13
  have BR := Lib.hid hr
  have G2 := Lib.hid hg2
  have F2 := Lib.hid hW2
  have Hen := Lib.hid hen
  have Hsz := Lib.hid hbc
  clear hr hg2 hW2 hen hb hg h hS hbc Hsz0
  refine hst.mono ?_
  clear hst
  rintro e w' ⟨rfl, rfl⟩
  by_cases hs1 : st = 1
  · have hr := Lib.hid (show loginR t st u f (decide (er = 0)) user = ((st, u, f), (503, youAre u)) by unfold loginR; rw [if_pos hs1])
    subst hs1
    have GW := G2
    have BW := BR
    have FW := Lib.hid (F2.out.no (Just g))
    go_wp2_with fail
    refine (one_any _ _ _).mono ?_
    rintro e w3 ⟨b, rfl, h1, h2, h3⟩
    have B3 := BW.out.fr h3 (fun h => h)
    have r0 := B3.cell 0
    have r1 := B3.cell 1
    have z0 := B3.frozen 0
    have z1 := B3.frozen 1
    simp at r0 r1
    have G3 := Lib.hid (GW.out.fr h3 (fun h => h))
    have F3 := Lib.hid (FW.out.then_no h3)
    have H1 := Lib.hid h1
    have H2 := Lib.hid h2
    have HB3 := Lib.hid B3
    have hs2 := FW.out.size
    have hs3 := FW.out.size
    have hlw := BW.out.lt
    clear h1 h2 h3 B3
    go_wp2_with fail
    have b3 := (HB3.out.put 0 (.int .i64 503)).put 1 (.slice (some ⟨b, 0, none⟩) 1 1)
    simp at b3
    have hfr : Fr (Just br) w3 _ := ((Fr.refl (Just br) w3).setCell (p := ⟨br, 0, none⟩) (.inl rfl) (.int .i64 503)).setCell (p := ⟨br, 1, none⟩) (.inl rfl) (.slice (some ⟨b, 0, none⟩) 1 1)
    generalize ((w3.setCell ⟨br, 0, none⟩ (.int .i64 503)).setCell ⟨br, 1, none⟩ (.slice (some ⟨b, 0, none⟩) 1 1)) = W9 at b3 hfr ⊢
    have x0 := b3.cell 0
    have x1 := b3.cell 1
    simp only [List.getElem?_toArray, List.getElem?_cons_zero, List.getElem?_cons_succ] at x0 x1
    refine bodyPost_ret (v := .agg #[.int .i64 503, .slice (some ⟨b, 0, none⟩) 1 1]) ?_ rfl ?_
    · simp [results, Try.f21, go_sem, x0, x1]
    · rw [hr.out]
      have n1 := H2.out.1
      have n2 := H2.out.2
      have n3 := hfr.size
      have n4 := F3.out.size
      have n5 := Hsz.out
      refine ⟨b, rfl, (hfr.cell (p := ⟨b, 0, none⟩) n2 (fun e => by have : b = br := e; omega)).trans H1.out, ⟨by omega, by omega⟩, F3.out.trans hfr fun k hk hl => ?_, G3.out.fr hfr fun e => ?_⟩
      · have : k = br := hk
        omega
      · have : g = br := e
        omega
  by_cases hs2 : st = 2
  · have hr := Lib.hid (show loginR t st u f (decide (er = 0)) user = ((st, u, f), (421, shutT)) by unfold loginR; rw [if_neg hs1, if_pos hs2])
    subst hs2
    have GW := G2
    have BW := BR
    have FW := Lib.hid (F2.out.no (Just g))
    go_wp2_with fail
    refine (one_any _ _ _).mono ?_
    rintro e w3 ⟨b, rfl, h1, h2, h3⟩
    have B3 := BW.out.fr h3 (fun h => h)
    have r0 := B3.cell 0
    have r1 := B3.cell 1
    have z0 := B3.frozen 0
    have z1 := B3.frozen 1
    simp at r0 r1
    have G3 := Lib.hid (GW.out.fr h3 (fun h => h))
    have F3 := Lib.hid (FW.out.then_no h3)
    have H1 := Lib.hid h1
    have H2 := Lib.hid h2
    have HB3 := Lib.hid B3
    have hs2 := FW.out.size
    have hs3 := FW.out.size
    have hlw := BW.out.lt
    clear h1 h2 h3 B3
    go_wp2_with fail
    have b3 := (HB3.out.put 0 (.int .i64 421)).put 1 (.slice (some ⟨b, 0, none⟩) 1 1)
    simp at b3
    have hfr : Fr (Just br) w3 _ := ((Fr.refl (Just br) w3).setCell (p := ⟨br, 0, none⟩) (.inl rfl) (.int .i64 421)).setCell (p := ⟨br, 1, none⟩) (.inl rfl) (.slice (some ⟨b, 0, none⟩) 1 1)
    generalize ((w3.setCell ⟨br, 0, none⟩ (.int .i64 421)).setCell ⟨br, 1, none⟩ (.slice (some ⟨b, 0, none⟩) 1 1)) = W9 at b3 hfr ⊢
    have x0 := b3.cell 0
    have x1 := b3.cell 1
    simp only [List.getElem?_toArray, List.getElem?_cons_zero, List.getElem?_cons_succ] at x0 x1
    refine bodyPost_ret (v := .agg #[.int .i64 421, .slice (some ⟨b, 0, none⟩) 1 1]) ?_ rfl ?_
    · simp [results, Try.f21, go_sem, x0, x1]
    · rw [hr.out]
      have n1 := H2.out.1
      have n2 := H2.out.2
      have n3 := hfr.size
      have n4 := F3.out.size
      have n5 := Hsz.out
      refine ⟨b, rfl, (hfr.cell (p := ⟨b, 0, none⟩) n2 (fun e => by have : b = br := e; omega)).trans H1.out, ⟨by omega, by omega⟩, F3.out.trans hfr fun k hk hl => ?_, G3.out.fr hfr fun e => ?_⟩
      · have : k = br := hk
        omega
      · have : g = br := e
        omega
  have hst1 : (st == 1) = false := by simpa using hs1
  have hst2 : (st == 2) = false := by simpa using hs2
  have hl1 := Lib.hid hs1
  have hl2 := Lib.hid hs2
  clear hs1 hs2 k3
  have hwl := F2.out.size
  by_cases h0 : er = 0
  · have hr := Lib.hid (login_ok (t := t) (u := u) (f := f) (user := user) hl1.out hl2.out (decide_eq_true h0))
    subst h0
    clear hl1 hl2 hvals
    go_wp2_with fail
    refine Hen.out.mono ?_
    rintro e w3 ⟨rfl, hf3⟩
    have g3 := G2.out.fr hf3 (fun h => h)
    have q2 := g3.cell 2
    have q3 := g3.cell 3
    have y2 := g3.frozen 2
    have y3 := g3.frozen 3
    simp at q2 q3
    have G3 := Lib.hid g3
    have R3 := Lib.hid (BR.out.fr hf3 (fun h => h))
    have F3 := Lib.hid (F2.out.then_no hf3)
    clear g3 hf3 Hen BR G2
    go_wp2_with fail
    have gw := (G3.out.put 2 (.int .i64 1)).put 3 (.string ⟨user.toArray⟩)
    simp at gw
    have GW := Lib.hid gw
    have BW := Lib.hid ((R3.out.far (p := ⟨g, 2, none⟩) (by show br ≠ g; omega) (.int .i64 1)).far (p := ⟨g, 3, none⟩) (by show br ≠ g; omega) (.string ⟨user.toArray⟩))
    have FW := Lib.hid (((F3.out.no (Just g)).setCell (p := ⟨g, 2, none⟩) (.inl rfl) (.int .i64 1)).setCell (p := ⟨g, 3, none⟩) (.inl rfl) (.string ⟨user.toArray⟩))
    clear gw
    refine (one_any _ _ _).mono ?_
    rintro e w3 ⟨b, rfl, h1, h2, h3⟩
    have B3 := BW.out.fr h3 (fun h => h)
    have r0 := B3.cell 0
    have r1 := B3.cell 1
    have z0 := B3.frozen 0
    have z1 := B3.frozen 1
    simp at r0 r1
    have G3 := Lib.hid (GW.out.fr h3 (fun h => h))
    have F3 := Lib.hid (FW.out.then_no h3)
    have H1 := Lib.hid h1
    have H2 := Lib.hid h2
    have HB3 := Lib.hid B3
    have hs2 := FW.out.size
    have hs3 := FW.out.size
    have hlw := BW.out.lt
    clear h1 h2 h3 B3
    go_wp2_with fail
    have b3 := (HB3.out.put 0 (.int .i64 230)).put 1 (.slice (some ⟨b, 0, none⟩) 1 1)
    simp at b3
    have hfr : Fr (Just br) w3 _ := ((Fr.refl (Just br) w3).setCell (p := ⟨br, 0, none⟩) (.inl rfl) (.int .i64 230)).setCell (p := ⟨br, 1, none⟩) (.inl rfl) (.slice (some ⟨b, 0, none⟩) 1 1)
    generalize ((w3.setCell ⟨br, 0, none⟩ (.int .i64 230)).setCell ⟨br, 1, none⟩ (.slice (some ⟨b, 0, none⟩) 1 1)) = W9 at b3 hfr ⊢
    have x0 := b3.cell 0
    have x1 := b3.cell 1
    simp only [List.getElem?_toArray, List.getElem?_cons_zero, List.getElem?_cons_succ] at x0 x1
    refine bodyPost_ret (v := .agg #[.int .i64 230, .slice (some ⟨b, 0, none⟩) 1 1]) ?_ rfl ?_
    · simp [results, Try.f21, go_sem, x0, x1]
    · rw [hr.out]
      have n1 := H2.out.1
      have n2 := H2.out.2
      have n3 := hfr.size
      have n4 := F3.out.size
      have n5 := Hsz.out
      refine ⟨b, rfl, (hfr.cell (p := ⟨b, 0, none⟩) n2 (fun e => by have : b = br := e; omega)).trans H1.out, ⟨by omega, by omega⟩, F3.out.trans hfr fun k hk hl => ?_, G3.out.fr hfr fun e => ?_⟩
      · have : k = br := hk
        omega
      · have : g = br := e
        omega
  have he0 := Lib.hid (decide_eq_false h0)
  have hvals : er = 7 ∨ er = 10 := hvals.resolve_left h0
  clear h0
  rcases hvals with rfl | rfl
  all_goals
    go_wp2_with fail
    refine Hen.out.mono ?_
    rintro e w3 ⟨rfl, hf3⟩
    have g3 := G2.out.fr hf3 (fun h => h)
    have q0 := g3.cell 0
    have q2 := g3.cell 2
    have q4 := g3.cell 4
    have y2 := g3.frozen 2
    have y4 := g3.frozen 4
    simp at q0 q2 q4
    have G3 := Lib.hid g3
    have R3 := Lib.hid (BR.out.fr hf3 (fun h => h))
    have F3 := Lib.hid (F2.out.then_no hf3)
    clear g3 hf3 Hen BR G2
    go_wp2_with fail
    have g4 := (G3.out.put 4 (.int .i64 (f + 1)))
    simp at g4
    have r4 := (R3.out.far (p := ⟨g, 4, none⟩) (by show br ≠ g; omega) (.int .i64 (f + 1)))
    have f4 := ((F3.out.no (Just g)).setCell (p := ⟨g, 4, none⟩) (.inl rfl) (.int .i64 (f + 1)))
    generalize w3.setCell ⟨g, 4, none⟩ (.int .i64 (f + 1)) = W4 at g4 r4 f4 ⊢
    have p0 := g4.cell 0
    have p2 := g4.cell 2
    have p4 := g4.cell 4
    have v2 := g4.frozen 2
    simp at p0 p2 p4
    have G4 := Lib.hid g4
    have R4 := Lib.hid r4
    have F4 := Lib.hid f4
    clear g4 r4 f4 q0 q2 q4 y2 y4 G3 R3 F3
    go_quiet (fail)
    by_cases hlt : f + 1 < t
    · have hr := Lib.hid (login_no (u := u) (user := user) hl1.out hl2.out he0.out hlt)
      clear hl1 hl2 he0
      go_wp2_with fail
      have GW := Lib.hid (show GAt (W4.drewN nq) g t wt st u (f + 1) un from G4.out)
      have BW := Lib.hid (show Blk (W4.drewN nq) br _ _ from R4.out)
      have FW := Lib.hid (F4.out.drewN nq)
      refine (one_any _ _ _).mono ?_
      rintro e w3 ⟨b, rfl, h1, h2, h3⟩
      have B3 := BW.out.fr h3 (fun h => h)
      have r0 := B3.cell 0
      have r1 := B3.cell 1
      have z0 := B3.frozen 0
      have z1 := B3.frozen 1
      simp at r0 r1
      have G3 := Lib.hid (GW.out.fr h3 (fun h => h))
      have F3 := Lib.hid (FW.out.then_no h3)
      have H1 := Lib.hid h1
      have H2 := Lib.hid h2
      have HB3 := Lib.hid B3
      have hs2 := FW.out.size
      have hs3 := FW.out.size
      have hlw := BW.out.lt
      clear h1 h2 h3 B3
      go_wp2_with fail
      have b3 := (HB3.out.put 0 (.int .i64 430)).put 1 (.slice (some ⟨b, 0, none⟩) 1 1)
      simp at b3
      have hfr : Fr (Just br) w3 _ := ((Fr.refl (Just br) w3).setCell (p := ⟨br, 0, none⟩) (.inl rfl) (.int .i64 430)).setCell (p := ⟨br, 1, none⟩) (.inl rfl) (.slice (some ⟨b, 0, none⟩) 1 1)
      generalize ((w3.setCell ⟨br, 0, none⟩ (.int .i64 430)).setCell ⟨br, 1, none⟩ (.slice (some ⟨b, 0, none⟩) 1 1)) = W9 at b3 hfr ⊢
      have x0 := b3.cell 0
      have x1 := b3.cell 1
      simp only [List.getElem?_toArray, List.getElem?_cons_zero, List.getElem?_cons_succ] at x0 x1
      refine bodyPost_ret (v := .agg #[.int .i64 430, .slice (some ⟨b, 0, none⟩) 1 1]) ?_ rfl ?_
      · simp [results, Try.f21, go_sem, x0, x1]
      · rw [hr.out]
        have n1 := H2.out.1
        have n2 := H2.out.2
        have n3 := hfr.size
        have n4 := F3.out.size
        have n5 := Hsz.out
        refine ⟨b, rfl, (hfr.cell (p := ⟨b, 0, none⟩) n2 (fun e => by have : b = br := e; omega)).trans H1.out, ⟨by omega, by omega⟩, F3.out.trans hfr fun k hk hl => ?_, G3.out.fr hfr fun e => ?_⟩
        · have : k = br := hk
          omega
        · have : g = br := e
          omega
    · have hr := Lib.hid (login_end (u := u) (user := user) hl1.out hl2.out he0.out hlt)
      clear hl1 hl2 he0
      go_wp2_with fail
      have gw := (show GAt (W4.drewN nq) g t wt st u (f + 1) un from G4.out).put 2 (.int .i64 2)
      simp at gw
      have GW := Lib.hid gw
      have BW := Lib.hid ((show Blk (W4.drewN nq) br 47 #[.int .i64 0, nil] from R4.out).far (p := ⟨g, 2, none⟩) (by show br ≠ g; omega) (.int .i64 2))
      have FW := Lib.hid ((F4.out.drewN nq).setCell (p := ⟨g, 2, none⟩) (.inl rfl) (.int .i64 2))
      clear gw
      refine (one_any _ _ _).mono ?_
      rintro e w3 ⟨b, rfl, h1, h2, h3⟩
      have B3 := BW.out.fr h3 (fun h => h)
      have r0 := B3.cell 0
      have r1 := B3.cell 1
      have z0 := B3.frozen 0
      have z1 := B3.frozen 1
      simp at r0 r1
      have G3 := Lib.hid (GW.out.fr h3 (fun h => h))
      have F3 := Lib.hid (FW.out.then_no h3)
      have H1 := Lib.hid h1
      have H2 := Lib.hid h2
      have HB3 := Lib.hid B3
      have hs2 := FW.out.size
      have hs3 := FW.out.size
      have hlw := BW.out.lt
      clear h1 h2 h3 B3
      go_wp2_with fail
      have b3 := (HB3.out.put 0 (.int .i64 421)).put 1 (.slice (some ⟨b, 0, none⟩) 1 1)
      simp at b3
      have hfr : Fr (Just br) w3 _ := ((Fr.refl (Just br) w3).setCell (p := ⟨br, 0, none⟩) (.inl rfl) (.int .i64 421)).setCell (p := ⟨br, 1, none⟩) (.inl rfl) (.slice (some ⟨b, 0, none⟩) 1 1)
      generalize ((w3.setCell ⟨br, 0, none⟩ (.int .i64 421)).setCell ⟨br, 1, none⟩ (.slice (some ⟨b, 0, none⟩) 1 1)) = W9 at b3 hfr ⊢
      have x0 := b3.cell 0
      have x1 := b3.cell 1
      simp only [List.getElem?_toArray, List.getElem?_cons_zero, List.getElem?_cons_succ] at x0 x1
      refine bodyPost_ret (v := .agg #[.int .i64 421, .slice (some ⟨b, 0, none⟩) 1 1]) ?_ rfl ?_
      · simp [results, Try.f21, go_sem, x0, x1]
      · rw [hr.out]
        have n1 := H2.out.1
        have n2 := H2.out.2
        have n3 := hfr.size
        have n4 := F3.out.size
        have n5 := Hsz.out
        refine ⟨b, rfl, (hfr.cell (p := ⟨b, 0, none⟩) n2 (fun e => by have : b = br := e; omega)).trans H1.out, ⟨by omega, by omega⟩, F3.out.trans hfr fun k hk hl => ?_, G3.out.fr hfr fun e => ?_⟩
        · have : k = br := hk
          omega
        · have : g = br := e
          omega
end Gate
end Go.Proofs.Ytllnaflknnkgiaa
