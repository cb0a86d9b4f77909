/- Statement RunnerTells of package runner. -/
import Derived.Test.YtagkhljcknnhmaaRunWorks
namespace Go.Proofs.Ytagkhljcknnhmaa
open Go.RowKit
set_option linter.unusedVariables false
set_option linter.unusedSimpArgs false
namespace Run
theorem ops_go {w w' : World} {S S' : Nat → Prop} {cs : List Value} {l : List O} (h : RSl 3 ROp w S cs l) (hk : Kept S w w') (hs : ∀ k, S k → S' k) : RSl 3 ROp w' S' cs l := (RSl.stable ROp.stable).go h hk hs
theorem ops_wf {w : World} {S : Nat → Prop} {v : Value} {l : List O} (h : RSl 3 ROp w S [v] l) : ∀ x ∈ l, wfO x := by
  obtain ⟨A, cap, _, _, _, hel⟩ := op_cells h
  intro x hx
  obtain ⟨i, hi, rfl⟩ := List.getElem_of_mem hx
  obtain ⟨ad, _, _, _, _, _, hw⟩ := hel i hi
  exact hw
theorem ahead_fr {w w' : World} {v : Value} {l : List O} (h : RSl 3 ROp w (Ahead w.heap.size) [v] l) (hf : Fr No w w') : RSl 3 ROp w' (Ahead w.heap.size) [v] l ∧ ∀ k, Ahead w.heap.size k → k < w'.heap.size :=
  ⟨ops_go h (Kept.of_no hf fun k hk => hk) fun k hk => hk, fun k hk => Nat.lt_of_lt_of_le hk hf.size⟩
theorem next_when {now : Int} {l : List O} (hck : chkR now l = 0) (u : Int) : (nextT u (endsR now l) (timesR now l)).2 = !decide (endsR now l ≤ u) ∧ (l = [] → u = now - 1 → nextT u (endsR now l) (timesR now l) = (now, true)) := by
  obtain ⟨u1, u2, u3⟩ := times_up hck
  refine ⟨?_, fun h1 h2 => ?_⟩
  · unfold nextT
    cases hf : (timesR now l).find? (fun x => x.2.1 != 2 && decide (u < x.1)) with
    | some x =>
      have hm := List.mem_of_find?_eq_some hf
      have hp := List.find?_some hf
      simp at hp
      have := u2 x hm
      simp; omega
    | none =>
      simp only
      by_cases h : u < endsR now l
      · rw [if_pos h]; simp; omega
      · rw [if_neg h]; simp; omega
  · subst h1
    unfold nextT
    have : endsR now [] = now := rfl
    rw [this]
    simp only [timesR, List.find?_nil]
    rw [if_pos (by omega)]
theorem due_wf {was now start : Int} {l : List O} (h : ∀ x ∈ l, wfO x) : ∀ x ∈ dueT was now (timesR start l), wfO x := by
  intro x hx
  unfold dueT at hx
  obtain ⟨y, hy, rfl⟩ := List.mem_map.1 hx
  have hy := (List.mem_filter.1 hy).1
  refine h _ ?_
  rw [← times_snd start l]
  exact List.mem_map.2 ⟨y, hy, rfl⟩
set_option maxRecDepth 100000 in
set_option maxHeartbeats 10000000 in
theorem walk_RunnerTells (W : World) (v0 : Value) (l : List O) (h0 : (RSl 3 ROp) W (Ahead W.heap.size) [v0] l) (v1 : Value) (now : Int) (h1 : (RInt .i64) W (Ahead W.heap.size) [v1] now) (v2 : Value) (ticks : List Int) (h2 : (RSl 1 (RInt .u16)) W (Ahead W.heap.size) [v2] ticks) :
    Calls Try.prog 3 #[v0, v1, v2] W fun e w' => e = .returned (.bool true) ∧ Fr No W w' := by
  have H0 := Lib.hid h0
  obtain ⟨A, cap, rfl, hc1, hc2, hel⟩ := op_cells h0
  obtain ⟨h1a, h1b⟩ := h1
  injection h1a with h1a _
  subst h1a
  have h1b := wf64.1 h1b
  have HT := Lib.hid (RSl.wfs h2)
  obtain ⟨B, cap', rfl, hd1, hd2, hel2⟩ := h2.ints
  have HE := Lib.hid hel2
  clear h0 hel h2 hel2
  unfold maxLen at hc2 hd2
  by_cases b0 : 40 < l.length
  · go_enter Try.func3, Try.ntmps3
    go_wp2_with (go_at_call 9; refine (works_any _).mono ?_; rintro e w' ⟨rfl, hf⟩; have Hf := Lib.hid hf; clear hf)
    go_ret
    exact ⟨rfl, Hf.out⟩
  by_cases b1 : 40 < ticks.length
  · go_enter Try.func3, Try.ntmps3
    go_wp2_with (go_at_call 9; refine (works_any _).mono ?_; rintro e w' ⟨rfl, hf⟩; have Hf := Lib.hid hf; clear hf)
    go_ret
    exact ⟨rfl, Hf.out⟩
  have HW := Lib.hid (ops_wf H0.out)
  by_cases hc : chk now l = 0
  · have HC := Lib.hid hc
    have hT : 0 ≤ now ∧ now ≤ 1099511627776 := by
      unfold chk at hc
      split at hc
      · exact isT_iff.1 (by assumption)
      · cases hc
    have HF := Lib.hid (show Fit l now from ⟨hT, by unfold chk at hc; rwa [if_pos (isT_iff.2 hT)] at hc, by omega, HW.out⟩)
    clear hc
    go_enter Try.func3, Try.ntmps3
    go_wp2_with fail
    refine (new_any _ l now _ _ (fun k hk => hk) H0.out (by omega)).mono ?_
    intro e w1 hp
    obtain ⟨g, G, rfl, hR, hf, hG⟩ := hp.yes HC.out
    have R1 := Lib.hid (hR.rw (was := now - 1) HF.out.ck (by omega))
    have HG := Lib.hid (fun k hk => (hG k hk).1)
    have F1 := Lib.hid hf
    clear hR hf hG hp
    go_wp2_with fail
    refine (rcheck_any _ l now _ _ (ahead_fr H0.out F1.out).2 (ahead_fr H0.out F1.out).1 (by omega)).mono ?_
    rintro e w2 ⟨rfl, hf⟩
    rw [HC.out]
    have F2 := Lib.hid (F1.out.then_no hf)
    have R2 := Lib.hid (R1.out.fr hf)
    clear hf
    go_wp2_with fail
    refine (rwends_any _ _ _ _ _ _ R2.out).mono ?_
    rintro e w3 ⟨rfl, rfl⟩
    go_wp2_with fail
    refine (rends_any _ l now _ _ (ahead_fr H0.out F2.out).1 (by omega) hT HF.out.ck).mono ?_
    rintro e w3 ⟨rfl, n3, rfl⟩
    have F3 := Lib.hid (F2.out.drewN n3)
    have R3 := Lib.hid (R2.out.fr ((Fr.refl No _).drewN n3))
    obtain ⟨ends, hends⟩ : ∃ ends, ends = endsR now l := ⟨_, rfl⟩
    rw [← hends]
    have HN := Lib.hid hends
    have hem : now ≤ ends ∧ ends ≤ 1099511627776 := by rw [hends]; exact ⟨(times_up HF.out.ck).2.2, ends_max HF.out.ck hT.2⟩
    clear hends
    go_wp2_with fail
    go_loopw [10, 11] (fun ev iv wr => ∃ (k : Nat) (u : Int), iv = .int .i64 k ∧ ev = .int .i64 u ∧ k ≤ ticks.length ∧ (now - 1 ≤ u ∧ u ≤ 1099511627776) ∧ (k = 0 → u = now - 1) ∧ Hid (RW wr G g l now u) ∧ Hid (Fr No W wr)) (fun _ i _ => ticks.length - (intOf i).toNat)
    case atStart => exact ⟨0, now - 1, rfl, rfl, by omega, by omega, fun _ => rfl, R3.out, F3.out⟩
    case round =>
      clear R1 R2 R3 F1 F2 F3
      obtain ⟨k, u, rfl, rfl, hk, hu, hku, R, F⟩ := hrel
      by_cases hlt : k < ticks.length
      · obtain ⟨ad, rfl, hSa, q1, q2⟩ := HE.out k hlt
        obtain ⟨t, ht⟩ : ∃ t, t = ticks[k] := ⟨_, rfl⟩
        rw [← ht] at q1 q2
        have q2 : 0 ≤ t ∧ t ≤ 65535 := by simpa [Lit.wf, IntKind.min, IntKind.max, IntKind.signed, IntKind.bits] using q2
        clear ht
        have hnx : (nextT u ends (timesR now l)).2 = !decide (ends ≤ u) ∧ (l = [] → u = now - 1 → nextT u ends (timesR now l) = (now, true)) := by
          rw [HN.out]
          exact next_when HF.out.ck u
        obtain ⟨a, b, hab⟩ : ∃ a b, nextT u ends (timesR now l) = (a, b) := ⟨_, _, rfl⟩
        rw [hab] at hnx
        obtain ⟨hb0, hz⟩ := hnx
        have hb : b = !decide (ends ≤ u) := hb0
        clear hb0
        obtain ⟨dn, hdn⟩ : ∃ dn, dn = decide (ends ≤ u) := ⟨_, rfl⟩
        rw [← hdn] at hb
        have HD := Lib.hid hdn
        clear hdn
        subst hb
        have hz : (((k : Int) == 0) = true ∧ ((l.length : Int) == 0) = true ∧ now = a ∧ dn = false) ∨ ((k : Int) == 0) = false ∨ (((k : Int) == 0) = true ∧ ((l.length : Int) == 0) = false) := by
          by_cases e1 : k = 0
          · have e1' : ((k : Int) == 0) = true := by rw [e1]; rfl
            by_cases e2 : l = []
            · have := hz e2 (hku e1)
              simp at this
              exact .inl ⟨e1', by rw [e2]; rfl, this.1.symm, this.2⟩
            · exact .inr (.inr ⟨e1', beq_eq_false_iff_ne.2 fun e => e2 (List.eq_nil_of_length_eq_zero (by omega))⟩)
          · exact .inr (.inl (beq_eq_false_iff_ne.2 (by omega)))
        have hna := next_any wr G g l now u HF.out R.out
        rw [← HN.out, hab] at hna
        have Hna := Lib.hid hna
        clear hna
        go_wp2_with fail
        refine Hna.out.mono ?_
        rintro e w4 ⟨hn, hf⟩
        have hn : e = .returned (.tuple #[.int .i64 a, .bool (!dn)]) := hn
        subst hn
        have F4 := Lib.hid (F.out.then_no hf)
        have R4 := Lib.hid (R.out.fr hf)
        clear hf
        have hnb := rnext_any _ l now u w4 _ (ahead_fr H0.out F4.out).1 (by omega) hT HF.out.ck
        rw [← HN.out, hab] at hnb
        have Hnb := Lib.hid hnb
        clear hnb
        go_wp2_with fail
        refine Hnb.out.mono ?_
        rintro e w5 ⟨hn, n5, rfl⟩
        have hn : e = .returned (.tuple #[.int .i64 a, .bool (!dn)]) := hn
        subst hn
        have F5 := Lib.hid (F4.out.drewN n5)
        have R5 := Lib.hid (R4.out.fr ((Fr.refl No _).drewN n5))
        have hdone := fun W' h => rdone_any W' G g l now u (R5.out.fr h)
        rw [← HN.out, ← HD.out] at hdone
        clear Hna Hnb hab
        have q5 := (F5.out.cell (p := ad.add k) (by rw [block_add]; exact hSa) (fun h => h)).trans q1
        clear q1 R R4 F F4
        by_cases hbig : 1099511627776 < u + t + 1
        · rcases hz with ⟨hz, hz2, rfl, rfl⟩ | hz | ⟨hz, hz2⟩
          all_goals
            try cases dn
          all_goals
            go_wp2_with (first
              | (go_at_call 16; refine (hdone _ (Fr.refl _ _)).mono ?_; rintro e w6 ⟨rfl, rfl⟩)
              | (go_at_call 9; refine (works_any _).mono ?_; rintro e w' ⟨rfl, hf⟩; have Hf := Lib.hid hf; clear hf))
            go_ret
            exact ⟨rfl, F5.out.then_no Hf.out⟩
        · rcases hz with ⟨hz, hz2, rfl, rfl⟩ | hz | ⟨hz, hz2⟩
          all_goals
            try cases dn
          all_goals
            go_wp2_with (go_at_call 16; refine (hdone _ (Fr.refl _ _)).mono ?_; rintro e w6 ⟨rfl, rfl⟩)
            refine (step_any _ _ _ _ _ u (u + t + 1) HF.out R5.out (by omega) (by omega)).mono ?_
            intro e w7 hp
            obtain ⟨L, hL⟩ : ∃ L, L = dueT u (u + t + 1) (timesR now l) := ⟨_, rfl⟩
            obtain ⟨n, hn⟩ : ∃ n, n = L.length := ⟨_, rfl⟩
            obtain ⟨A7, c7, rfl, h1, h2, h3⟩ := hp.known hL.symm hn.symm
            have hgW := HG.out g R5.out.has.1
            have R7 := Lib.hid h2
            have O7 := Lib.hid h1
            have HL := Lib.hid hL
            have Hn := Lib.hid hn
            have F7 := Lib.hid (F5.out.trans h3 fun k hk hl => by have hk : k = g := hk; omega)
            clear h1 h2 h3 hp hL hn
            go_wp2_with fail
            refine (due_any _ l now u (u + t + 1) w7 _ (ahead_fr H0.out F7.out).2 (ahead_fr H0.out F7.out).1 (by omega) hT HF.out.ck).mono ?_
            rintro e w8 ⟨v8, rfl, h1, h2⟩
            rw [← HL.out] at h1
            rw [← Hn.out] at h1
            obtain ⟨A8, c8, rfl⟩ := own_form h1
            have O8 := Lib.hid h1
            have O7 := Lib.hid (own_fr O7.out h2.1 fun _ _ h => h)
            have F8 := Lib.hid (F7.out.then_no h2.1)
            have R8 := Lib.hid (R7.out.fr h2.1)
            clear h1 h2
            have hwf : ∀ x ∈ L, wfO x := by rw [HL.out]; exact due_wf HW.out
            have hs := fun h => same_any (.slice A7 n c7) (.slice A8 n c8) L L w8 _ _ (own_ops (by rw [← Hn.out]; exact O7.out) h) (own_ops (by rw [← Hn.out]; exact O8.out) h)
            rw [decide_eq_true rfl] at hs
            have Hs := Lib.hid (hs hwf)
            clear hs hwf
            go_wp2_with fail
            refine Hs.out.mono ?_
            rintro e w9 ⟨rfl, n9, rfl⟩
            go_wp2_with fail
            go_roundw
            case rel => exact ⟨k + 1, _, by go_num, rfl, by omega, by omega, fun h => by omega, R8.out.fr ((Fr.refl No _).drewN n9), F8.out.drewN n9⟩
            case measure => simp [intOf]; omega
      · go_wp2_with (go_at_call 9; refine (works_any _).mono ?_; rintro e w' ⟨rfl, hf⟩; have Hf := Lib.hid hf; clear hf)
        go_ret
        exact ⟨rfl, F.out.then_no Hf.out⟩
  · have HC := Lib.hid hc
    clear hc
    go_enter Try.func3, Try.ntmps3
    go_wp2_with fail
    refine (new_any _ l now _ _ (fun k hk => hk) H0.out (by omega)).mono ?_
    intro e w1 hp
    obtain ⟨rfl, hf⟩ := hp.no rfl HC.out
    have F1 := Lib.hid hf
    clear hf hp
    obtain ⟨c, hcc⟩ : ∃ c, c = chk now l := ⟨_, rfl⟩
    have HCC := Lib.hid hcc
    have hc0 : (c == 0) = false := by rw [hcc]; exact beq_eq_false_iff_ne.2 HC.out
    rw [← hcc]
    clear hcc
    go_wp2_with fail
    refine (rcheck_any _ l now _ _ (ahead_fr H0.out F1.out).2 (ahead_fr H0.out F1.out).1 (by omega)).mono ?_
    rintro e w2 ⟨rfl, hf⟩
    rw [← HCC.out]
    have F2 := Lib.hid (F1.out.then_no hf)
    clear hf
    go_wp2_with (go_at_call 9; refine (works_any _).mono ?_; rintro e w' ⟨rfl, hf⟩; have Hf := Lib.hid hf; clear hf)
    go_ret
    exact ⟨rfl, F2.out.then_no Hf.out⟩
end Run
end Go.Proofs.Ytagkhljcknnhmaa
