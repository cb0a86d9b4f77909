/- Package brk: the statements' walks. Printed by gen_brkx.py. -/
import Derived.Test.YtgfofigdejlbfaaBrkX
namespace Go.Proofs.Ytgfofigdejlbfaa
open Go.RowKit
set_option linter.unusedVariables false
set_option linter.unusedSimpArgs false
namespace Brk
open Digit Sls
set_option maxRecDepth 100000 in
set_option maxHeartbeats 4000000 in
theorem walk_BrkReads (W : World) (v0 : Value) (x0 : Str) (h0 : RStr W (Ahead W.heap.size) [v0] x0) : Calls Try.prog 3 #[v0] W fun e w' => e = .returned (.bool true) ∧ Fr No W w' := by
  obtain ⟨h0, hm⟩ := h0
  injection h0 with h0 _
  subst h0
  unfold maxLen at hm
  by_cases hl : 400 < x0.length
  · go_enter Try.func3, Try.ntmps3
    go_wp2_with fail
    refine (works_any _).mono ?_
    rintro e wz ⟨rfl, hf⟩
    have FZ := Lib.hid ((Fr.refl No W).then_no hf)
    clear hf
    go_wp2_with fail
    go_ret
    exact ⟨rfl, FZ.out⟩
  · have C1 := Lib.hid (fun W => read_any x0 (by omega) W)
    have C2 := Lib.hid (fun W => rread_any x0 (by omega) W)
    have OK := Lib.hid (read_ok x0)
    obtain ⟨l, c, hr⟩ : ∃ l c, readR x0 = (l, c) := ⟨_, _, rfl⟩
    rw [hr] at C1 C2 OK
    clear hr
    have hcc : (c == c) = true := beq_iff_eq.2 rfl
    go_enter Try.func3, Try.ntmps3
    go_wp2_with fail
    refine (C1.out _).mono ?_
    rintro e w1 ⟨v1, rfl, hg⟩
    have G1 := Lib.hid hg
    clear hg
    go_wp2_with fail
    refine (C2.out _).mono ?_
    rintro e w2 ⟨v2, rfl, hg⟩
    have G2 := Lib.hid (G1.out.no hg.fr)
    have K2 := Lib.hid hg
    clear hg G1 C1 C2
    go_wp2_with fail
    refine (same_g G2.out K2.out OK.out).mono ?_
    rintro e w3 ⟨rfl, hf⟩
    have G3 := Lib.hid (G2.out.no hf)
    have K3 := Lib.hid (K2.out.no hf)
    clear hf G2 K2
    go_wp2_with fail
    refine (cost_g G3.out OK.out).mono ?_
    rintro e w4 ⟨rfl, hf⟩
    have G4 := Lib.hid (G3.out.no hf)
    have K4 := Lib.hid (K3.out.no hf)
    clear hf G3 K3
    obtain ⟨sm, hsm⟩ : ∃ sm, sm = sumN l := ⟨_, rfl⟩
    rw [← hsm]
    have HSM := Lib.hid hsm
    clear hsm
    have hss : (sm == sm) = true := beq_iff_eq.2 rfl
    go_wp2_with fail
    refine (rcost_g K4.out OK.out).mono ?_
    rintro e w5 ⟨rfl, hf⟩
    rw [← HSM.out]
    have G5 := Lib.hid (G4.out.no hf)
    have K5 := Lib.hid (K4.out.no hf)
    clear hf G4 K4
    go_wp2_with fail
    refine (bytes_g G5.out OK.out).mono ?_
    rintro e w6 ⟨rfl, hf⟩
    have G6 := Lib.hid (G5.out.no hf)
    have K6 := Lib.hid (K5.out.no hf)
    clear hf G5 K5
    obtain ⟨bs, hbs⟩ : ∃ bs, bs = allS l := ⟨_, rfl⟩
    rw [← hbs]
    have HBS := Lib.hid hbs
    clear hbs
    have hbb : (bs == bs) = true := beq_iff_eq.2 rfl
    go_wp2_with fail
    refine (rbytes_g K6.out OK.out).mono ?_
    rintro e w7 ⟨rfl, hf⟩
    rw [← HBS.out]
    have F7 := Lib.hid (G6.out.fr.then_no hf)
    clear hf G6 K6
    go_wp2_with fail
    refine (works_any _).mono ?_
    rintro e wz ⟨rfl, hf⟩
    have FZ := Lib.hid (F7.out.then_no hf)
    clear hf
    go_wp2_with fail
    go_ret
    exact ⟨rfl, FZ.out⟩
abbrev ROpU : Rd Op := RTwo 1 (RInt .i64) (RTwo 1 RStr (RInt .i64))
theorem opU {w : World} {S : Nat → Prop} {cs : List Value} {x : Op} (h : ROpU w S cs x) : cs = encO x ∧ (Lit.int .i64 x.1).wf = true ∧ x.2.1.length ≤ maxLen ∧ (Lit.int .i64 x.2.2).wf = true := by
  obtain ⟨hl, ⟨h1, b1⟩, l2, ⟨h2, b2⟩, h3, b3⟩ := h
  refine ⟨?_, b1, b2, b3⟩
  rw [← List.take_append_drop 1 cs, h1, ← List.take_append_drop 1 (cs.drop 1), h2, h3]; rfl
theorem opsU {w : World} {S : Nat → Prop} {v : Value} {l : List Op} (h : RSl 3 ROpU w S [v] l) (hb : ∀ x ∈ l, x.2.1.length ≤ 100) : RSl 3 ROp w S [v] l := by
  obtain ⟨A, cap, h1, h2, h3, h4, h5⟩ := h
  refine ⟨A, cap, h1, h2, h3, h4, fun i hi => ?_⟩
  obtain ⟨ad, ecs, g1, g2, g3, g4, g5⟩ := h5 i hi
  obtain ⟨e1, e2, e3, e4⟩ := opU g5
  exact ⟨ad, ecs, g1, g2, g3, g4, e1, e2, by have := hb _ (List.getElem_mem hi); omega, e4⟩
theorem puts_ok {l : List Op} (hn : l.length ≤ 30) (hb : ∀ x ∈ l, x.2.1.length ≤ 100) : (∀ x ∈ l, x.2.1.length ≤ 255) ∧ l.length ≤ 255 := ⟨fun x hx => by have := hb x hx; omega, by omega⟩
theorem put_cases (l : List Op) : (∃ c, c ≠ 0 ∧ putR l = ([], c)) ∨ ∃ s, putR l = (s, 0) := by
  by_cases hg : Good 0 l
  · by_cases hl : 255 < (cat l).length
    · exact .inl ⟨5, by decide, put_long hg hl⟩
    · exact .inr ⟨_, put_yes hg (by omega)⟩
  · exact .inl ⟨1, by decide, put_bad hg⟩
theorem put_len {l : List Op} {s : Str} (h : putR l = (s, 0)) : s.length ≤ 255 := by
  by_cases hg : Good 0 l
  · by_cases hl : 255 < (cat l).length
    · rw [put_long hg hl] at h; cases h
    · rw [put_yes hg (by omega)] at h; injection h with h _; subst h; omega
  · rw [put_bad hg] at h; cases h
set_option maxRecDepth 100000 in
set_option maxHeartbeats 4000000 in
theorem walk_BrkPuts (W : World) (v0 : Value) (x0 : (List (Int × (Str × Int)))) (h0 : (RSl 3 (RTwo 1 (RInt .i64) (RTwo 1 RStr (RInt .i64)))) W (Ahead W.heap.size) [v0] x0) : Calls Try.prog 4 #[v0] W fun e w' => e = .returned (.bool true) ∧ Fr No W w' := by
  obtain ⟨A, c, rfl, hc1, hc2⟩ := h0.slice
  unfold maxLen at hc2
  have H0 := Lib.hid h0
  clear h0
  by_cases hl : 30 < x0.length
  · go_enter Try.func4, Try.ntmps4
    go_wp2_with fail
    refine (works_any _).mono ?_
    rintro e wz ⟨rfl, hf⟩
    have FZ := Lib.hid ((Fr.refl No W).then_no hf)
    clear hf
    go_wp2_with fail
    go_ret
    exact ⟨rfl, FZ.out⟩
  · have hl30 : x0.length ≤ 30 := by omega
    go_enter Try.func4, Try.ntmps4
    go_wp2_with fail
    go_loopw [3] (fun iv wr => ∃ k : Nat, iv = .int .i64 k ∧ k ≤ x0.length ∧ Hid (∀ j (h : j < x0.length), j < k → x0[j].2.1.length ≤ 100) ∧ Hid (wr = W)) (fun i _ => x0.length - (intOf i).toNat)
    case atStart => exact ⟨0, rfl, by omega, Lib.hid (fun j h hj => absurd hj (by omega)), rfl⟩
    case round =>
      obtain ⟨k, rfl, hk, HB, HW⟩ := hrel
      have hw := HW.out
      subst hw
      clear HW
      by_cases hlt : k < x0.length
      · obtain ⟨ad, ecs, rfl, g2, g3, g4, g5⟩ := sl_at H0.out hlt
        obtain ⟨rfl, -, b2, -⟩ := opU g5
        have c1 : wr.cell? ⟨(ad.add (k * 3)).block, (ad.add (k * 3)).off + 1, none⟩ = some (.string ⟨x0[k].2.1.toArray⟩) := g4 1 (by omega)
        unfold maxLen at b2
        clear g2 g3 g4 g5
        by_cases h100 : 100 < x0[k].2.1.length
        · clear HB
          generalize x0[k].2.1 = s at c1 b2 h100
          go_wp2_with fail
          refine (works_any _).mono ?_
          rintro e wz ⟨rfl, hf⟩
          have FZ := Lib.hid ((Fr.refl No wr).then_no hf)
          clear hf
          go_wp2_with fail
          go_ret
          exact ⟨rfl, FZ.out⟩
        · have HB2 : Hid (∀ j (h : j < x0.length), j < k + 1 → x0[j].2.1.length ≤ 100) := Lib.hid (fun j h hj => by
            by_cases e : j = k
            · subst e; omega
            · exact HB.out j h (by omega))
          clear HB
          generalize x0[k].2.1 = s at c1 b2 h100
          go_wp2_with fail
          go_roundw
          case rel => exact ⟨k + 1, by go_num, by omega, HB2, by first | exact Lib.hid rfl | exact Lib.hid trivial | exact trivial⟩
          case measure => simp [intOf]; omega
      · have HBA : ∀ x ∈ x0, x.2.1.length ≤ 100 := fun x hx => by
          obtain ⟨j, hj, rfl⟩ := List.getElem_of_mem hx
          exact HB.out j hj (by omega)
        have HO := Lib.hid (opsU H0.out HBA)
        have hpo := puts_ok hl30 HBA
        have C1 := Lib.hid (put_any _ x0 hpo.1 hpo.2 wr (Ahead wr.heap.size) (fun k hk => hk) HO.out)
        have C2 := Lib.hid (fun (W2 : World) (hf : Fr No wr W2) => rput_any _ x0 hpo.1 hpo.2 W2 (Ahead wr.heap.size) (fun k hk => Nat.lt_of_lt_of_le hk hf.size) (sl_fr HO.out (fun k hk => hk) hf))
        clear HBA hpo HB
        rcases put_cases x0 with ⟨c, hc0, hp⟩ | ⟨s, hp⟩
        · rw [hp] at C1 C2
          have hcc : (c != c) = false := by simp
          have hcn : (c != 0) = true := by simpa using hc0
          clear hc0 hp
          go_wp2_with fail
          refine C1.out.mono ?_
          rintro e w1 ⟨rfl, hf⟩
          have F1 := Lib.hid hf
          clear hf
          go_wp2_with fail
          refine (C2.out _ F1.out).mono ?_
          rintro e w2 ⟨rfl, hf⟩
          have F2 := Lib.hid (F1.out.then_no hf)
          clear hf F1 C1 C2
          go_wp2_with fail
          refine (works_any _).mono ?_
          rintro e wz ⟨rfl, hf⟩
          have FZ := Lib.hid (F2.out.then_no hf)
          clear hf
          go_wp2_with fail
          go_ret
          exact ⟨rfl, FZ.out⟩
        · rw [hp] at C1 C2
          have hsl := put_len hp
          have HRD := Lib.hid (put_read hp)
          have hss : (s != s) = false := by simp
          have hss2 : (s == s) = true := by simp
          have CR := Lib.hid (fun W => read_any s (by omega) W)
          rw [HRD.out] at CR
          clear hp
          go_wp2_with fail
          refine C1.out.mono ?_
          rintro e w1 ⟨rfl, hf⟩
          have F1 := Lib.hid hf
          clear hf
          go_wp2_with fail
          refine (C2.out _ F1.out).mono ?_
          rintro e w2 ⟨rfl, hf⟩
          have F2 := Lib.hid (F1.out.then_no hf)
          clear hf F1 C1 C2
          go_wp2_with fail
          refine (CR.out _).mono ?_
          rintro e w3 ⟨v3, rfl, hg⟩
          have F3 := Lib.hid (F2.out.then_no hg.fr)
          have G3 := Lib.hid hg
          have OK := Lib.hid (read_ok s)
          rw [HRD.out] at OK
          clear hg F2 CR
          have O3 := Lib.hid (sl_fr HO.out (fun k hk => hk) F3.out)
          go_wp2_with fail
          refine (rsame_yes _ _ x0 w3 (New w2 w3) (Ahead wr.heap.size) new_lt (gro_sl G3.out OK.out.ok) (fun k hk => Nat.lt_of_lt_of_le hk F3.out.size) O3.out).mono ?_
          rintro e w4 ⟨rfl, hf⟩
          have F4 := Lib.hid (F3.out.then_no hf)
          clear hf F3 G3 O3
          go_wp2_with fail
          refine (works_any _).mono ?_
          rintro e wz ⟨rfl, hf⟩
          have FZ := Lib.hid (F4.out.then_no hf)
          clear hf
          go_wp2_with fail
          go_ret
          exact ⟨rfl, FZ.out⟩
set_option maxRecDepth 100000 in
set_option maxHeartbeats 4000000 in
theorem walk_BrkShort (W : World) (v0 : Value) (x0 : Str) (h0 : RStr W (Ahead W.heap.size) [v0] x0) : Calls Try.prog 5 #[v0] W fun e w' => e = .returned (.bool true) ∧ Fr No W w' := by
  obtain ⟨h0, hm⟩ := h0
  injection h0 with h0 _
  subst h0
  unfold maxLen at hm
  by_cases hl : 255 < x0.length
  · go_enter Try.func5, Try.ntmps5
    go_wp2_with fail
    refine (works_any _).mono ?_
    rintro e wz ⟨rfl, hf⟩
    have FZ := Lib.hid ((Fr.refl No W).then_no hf)
    clear hf
    go_wp2_with fail
    go_ret
    exact ⟨rfl, FZ.out⟩
  · have C1 := Lib.hid (fun W => read_any x0 (by omega) W)
    have OK := Lib.hid (read_ok x0)
    obtain ⟨l, c, hr⟩ : ∃ l c, readR x0 = (l, c) := ⟨_, _, rfl⟩
    rw [hr] at C1 OK
    by_cases hc : c = 0
    · subst hc
      have HSH := Lib.hid (short hr)
      clear hr
      go_enter Try.func5, Try.ntmps5
      go_wp2_with fail
      refine (C1.out _).mono ?_
      rintro e w1 ⟨v1, rfl, hg⟩
      have G1 := Lib.hid hg
      have P1 := Lib.hid (put_g hg OK.out)
      clear hg C1
      rcases HSH.out with hp | ⟨hp, hr⟩
      · rw [hp] at P1
        clear hp
        go_wp2_with fail
        refine P1.out.mono ?_
        rintro e w2 ⟨rfl, hf⟩
        have F2 := Lib.hid (G1.out.fr.then_no hf)
        clear hf G1 P1
        go_wp2_with fail
        refine (works_any _).mono ?_
        rintro e wz ⟨rfl, hf⟩
        have FZ := Lib.hid (F2.out.then_no hf)
        clear hf
        go_wp2_with fail
        go_ret
        exact ⟨rfl, FZ.out⟩
      · have hsl := put_len hp
        rw [hp] at P1
        obtain ⟨t, ht⟩ : ∃ t, t = cat l := ⟨_, rfl⟩
        rw [← ht] at P1 hsl hp hr
        have HP := Lib.hid hp
        have CR := Lib.hid (fun W => read_any t (by omega) W)
        rw [hr] at CR
        have htt : (t == t) = true := by simp
        clear hp hr ht HSH
        go_wp2_with fail
        refine P1.out.mono ?_
        rintro e w2 ⟨rfl, hf⟩
        have G2 := Lib.hid (G1.out.no hf)
        clear hf G1 P1
        go_wp2_with fail
        refine (CR.out _).mono ?_
        rintro e w3 ⟨v3, rfl, hg⟩
        have G3 := Lib.hid (G2.out.no hg.fr)
        have K3 := Lib.hid hg
        have P3 := Lib.hid (put_g hg OK.out)
        rw [HP.out] at P3
        clear hg G2 CR
        go_wp2_with fail
        refine P3.out.mono ?_
        rintro e w4 ⟨rfl, hf⟩
        have G4 := Lib.hid (G3.out.no hf)
        have K4 := Lib.hid (K3.out.no hf)
        clear hf G3 K3 P3
        go_wp2_with fail
        refine (same_g G4.out K4.out OK.out).mono ?_
        rintro e w5 ⟨rfl, hf⟩
        have F5 := Lib.hid (G4.out.fr.then_no hf)
        clear hf G4 K4
        go_wp2_with fail
        refine (works_any _).mono ?_
        rintro e wz ⟨rfl, hf⟩
        have FZ := Lib.hid (F5.out.then_no hf)
        clear hf
        go_wp2_with fail
        go_ret
        exact ⟨rfl, FZ.out⟩
    · have hcn : (c != 0) = true := by simpa using hc
      clear hr hc
      go_enter Try.func5, Try.ntmps5
      go_wp2_with fail
      refine (C1.out _).mono ?_
      rintro e w1 ⟨v1, rfl, hg⟩
      have F1 := Lib.hid hg.fr
      clear hg C1
      go_wp2_with fail
      refine (works_any _).mono ?_
      rintro e wz ⟨rfl, hf⟩
      have FZ := Lib.hid (F1.out.then_no hf)
      clear hf
      go_wp2_with fail
      go_ret
      exact ⟨rfl, FZ.out⟩
end Brk
end Go.Proofs.Ytgfofigdejlbfaa
