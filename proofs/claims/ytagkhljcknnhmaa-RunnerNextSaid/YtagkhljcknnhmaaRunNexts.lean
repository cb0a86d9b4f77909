/- Statement RunnerNext of package runner. -/
import Derived.Test.YtagkhljcknnhmaaRunTells
namespace Go.Proofs.Ytagkhljcknnhmaa
open Go.RowKit
set_option linter.unusedVariables false
set_option linter.unusedSimpArgs false
namespace Run
theorem find_min {p : T → Bool} {a : Int} {l : List T} {x : T} (h : Up a l) (hf : l.find? p = some x) : ∀ y ∈ l, p y = true → x.1 ≤ y.1 := by
  induction l generalizing a with
  | nil => cases hf
  | cons z l ih =>
    obtain ⟨h1, h2⟩ := h.cons
    cases hz : p z
    · rw [List.find?_cons_of_neg (by simpa using hz)] at hf
      intro y hy hp
      rcases List.mem_cons.1 hy with rfl | hy
      · rw [hz] at hp; cases hp
      · exact ih h2 hf y hy hp
    · rw [List.find?_cons_of_pos hz] at hf
      injection hf with hf
      subst hf
      intro y hy hp
      rcases List.mem_cons.1 hy with rfl | hy
      · exact Int.le_refl _
      · exact h2.1 y hy
theorem upto_lt {a u v : Int} {l : List T} {x : T} (h : Up a l) (hx : x ∈ l) (hu : u < x.1) (hv : x.1 ≤ v) : (upto u l).length < (upto v l).length := by
  induction l generalizing a with
  | nil => cases hx
  | cons z l ih =>
    obtain ⟨h1, h2⟩ := h.cons
    by_cases hz : z.1 ≤ u
    · rw [upto_pos hz, upto_pos (by omega)]
      rcases List.mem_cons.1 hx with rfl | hx
      · omega
      · simpa using ih h2 hx
    · have : z.1 ≤ x.1 := by
        rcases List.mem_cons.1 hx with rfl | hx
        · exact Int.le_refl _
        · exact h2.1 x hx
      rw [upto_neg (by omega), upto_pos (by omega)]
      simp
structure Goes (l : List O) (start u a : Int) : Prop where
  lt : u < a
  le : a ≤ endsR start l
  ahead : dueT u (a - 1) (timesR start l) = []
  some : ∀ v, u ≤ v → v < a → dueT v a (timesR start l) ≠ [] ∨ endsR start l ≤ a
  more : (upto u (timesR start l)).length < (upto a (timesR start l)).length ∨ endsR start l ≤ a
theorem next_goes {start : Int} {l : List O} (hck : chkR start l = 0) {u : Int} (hu : ¬ endsR start l ≤ u) : ∃ a, nextT u (endsR start l) (timesR start l) = (a, true) ∧ Goes l start u a := by
  obtain ⟨u1, u2, u3⟩ := times_up hck
  unfold nextT
  cases hf : (timesR start l).find? (fun x => x.2.1 != 2 && decide (u < x.1)) with
  | some x =>
    have hm := List.mem_of_find?_eq_some hf
    have hp := List.find?_some hf
    simp at hp
    refine ⟨x.1, rfl, hp.2, u2 x hm, ?_, fun v h1 h2 => .inl ?_, .inl (upto_lt u1 hm hp.2 (Int.le_refl _))⟩
    · unfold dueT
      rw [List.filter_eq_nil_iff.2]
      · rfl
      · intro y hy hq
        simp at hq
        have := find_min u1 hf y hy (by simp; exact ⟨hq.1, hq.2.1⟩)
        omega
    · exact List.ne_nil_of_mem (List.mem_map.2 ⟨x, List.mem_filter.2 ⟨hm, by simp; exact ⟨hp.1, h2⟩⟩, rfl⟩)
  | none =>
    simp only
    rw [if_pos (by omega)]
    refine ⟨_, rfl, by omega, Int.le_refl _, ?_, fun v _ _ => .inr (Int.le_refl _), .inr (Int.le_refl _)⟩
    unfold dueT
    rw [List.filter_eq_nil_iff.2]
    · rfl
    · intro y hy hq
      have := List.find?_eq_none.1 hf y hy
      simp at hq this
      have := this hq.1
      omega
theorem next_over {start : Int} {l : List O} (hck : chkR start l = 0) {u : Int} (hu : endsR start l ≤ u) : nextT u (endsR start l) (timesR start l) = (0, false) := by
  obtain ⟨u1, u2, u3⟩ := times_up hck
  unfold nextT
  rw [List.find?_eq_none.2 (fun x hx => by have := u2 x hx; simp; omega)]
  simp only
  rw [if_neg (by omega)]
theorem upto_max {start u : Int} {l : List O} : (upto u (timesR start l)).length ≤ l.length := by
  have : (upto u (timesR start l)).length ≤ (timesR start l).length := by unfold upto; exact (List.takeWhile_sublist _).length_le
  rwa [times_len] at this
set_option maxRecDepth 100000 in
set_option maxHeartbeats 10000000 in
theorem walk_RunnerNext (W : World) (v0 : Value) (l : List O) (h0 : (RSl 3 ROp) W (Ahead W.heap.size) [v0] l) (v1 : Value) (st : Int) (h1 : (RInt .u32) W (Ahead W.heap.size) [v1] st) :
    Calls Try.prog 5 #[v0, v1] W fun e w' => e = .returned (.bool true) ∧ Fr No W w' := by
  have H0 := Lib.hid h0
  obtain ⟨A, cap, rfl, hc1, hc2, hel⟩ := op_cells h0
  obtain ⟨h1a, h1b⟩ := h1
  injection h1a with h1a _
  subst h1a
  have h1c : 0 ≤ st ∧ st ≤ 4294967295 := by simpa [Lit.wf, IntKind.min, IntKind.max, IntKind.signed, IntKind.bits] using h1b
  clear h0 hel h1b
  unfold maxLen at hc2
  by_cases b0 : 40 < l.length
  · go_enter Try.func5, Try.ntmps5
    go_wp2_with (go_at_call 9; refine (works_any _).mono ?_; rintro e w' ⟨rfl, hf⟩; have Hf := Lib.hid hf; clear hf)
    go_ret
    exact ⟨rfl, Hf.out⟩
  have HW := Lib.hid (ops_wf H0.out)
  by_cases hc : chk st l = 0
  · have HC := Lib.hid hc
    have HF := Lib.hid (show Fit l st from ⟨by omega, by unfold chk at hc; rwa [if_pos (isT_iff.2 (by omega))] at hc, by omega, HW.out⟩)
    clear hc
    go_enter Try.func5, Try.ntmps5
    go_wp2_with (go_at_call 11; refine (rcheck_any _ l st _ _ (fun k hk => hk) H0.out (by omega)).mono ?_; rintro e w1 ⟨rfl, hf⟩; rw [HC.out]; have F1 := Lib.hid hf; clear hf)
    refine (new_any _ l st _ _ (ahead_fr H0.out F1.out).2 (ahead_fr H0.out F1.out).1 (by omega)).mono ?_
    intro e w2 hp
    obtain ⟨g, G, rfl, hR, hf, hG⟩ := hp.yes HC.out
    have R2 := Lib.hid (hR.rw (was := st - 1) HF.out.ck (by omega))
    have HG := Lib.hid (fun k hk => Nat.le_trans F1.out.size (hG k hk).1)
    have F2 := Lib.hid (F1.out.then_no hf)
    clear hR hf hG hp
    obtain ⟨ends, hends⟩ : ∃ ends, ends = endsR st l := ⟨_, rfl⟩
    have HN := Lib.hid hends
    have hem : st ≤ ends ∧ ends ≤ 1099511627776 := by rw [hends]; exact ⟨(times_up HF.out.ck).2.2, ends_max HF.out.ck (by omega)⟩
    clear hends
    go_wp2_with fail
    go_loopw [7, 8] (fun ev iv wr => ∃ (k : Nat) (u : Int), iv = .int .i64 k ∧ ev = .int .i64 u ∧ k ≤ l.length + 1 ∧ (st - 1 ≤ u ∧ u ≤ ends) ∧ Hid (endsR st l ≤ u ∨ k ≤ (upto u (timesR st l)).length) ∧ Hid (RW wr G g l st u) ∧ Hid (Fr No W wr)) (fun _ i _ => l.length + 2 - (intOf i).toNat)
    case atStart => exact ⟨0, st - 1, rfl, rfl, by omega, by omega, .inr (by omega), R2.out, F2.out⟩
    case round =>
      clear R2 F2 F1
      obtain ⟨k, u, rfl, rfl, hk, hu, HP, R, F⟩ := hrel
      by_cases hov : ends ≤ u
      · have hn := next_any wr G g l st u HF.out R.out
        rw [next_over HF.out.ck (by rw [← HN.out]; exact hov)] at hn
        have Hn := Lib.hid hn
        have hd := fun W h => rdone_any W G g l st u (R.out.fr h)
        rw [← HN.out, decide_eq_true hov] at hd
        have Hd := Lib.hid hd
        clear hn hd hov
        go_wp2_with fail
        refine Hn.out.mono ?_
        rintro e w4 ⟨hn, hf⟩
        have hn' : e = .returned (.tuple #[.int .i64 0, .bool false]) := hn
        subst hn'
        clear hn
        have F4 := Lib.hid (F.out.then_no hf)
        have Hf4 := Lib.hid hf
        clear hf
        go_wp2_with (first
          | (go_at_call 16; refine (Hd.out _ Hf4.out).mono ?_; rintro e w6 ⟨rfl, rfl⟩)
          | (go_at_call 9; refine (works_any _).mono ?_; rintro e w' ⟨rfl, hf⟩; have Hf := Lib.hid hf; clear hf))
        go_ret
        exact ⟨rfl, F4.out.then_no Hf.out⟩
      · obtain ⟨a, hna, hg⟩ := next_goes HF.out.ck (u := u) (by rw [← HN.out]; exact hov)
        have hn := next_any wr G g l st u HF.out R.out
        rw [hna] at hn
        have Hn := Lib.hid hn
        have HGo := Lib.hid hg
        have hua := hg.lt
        have hae : a ≤ ends := by rw [HN.out]; exact hg.le
        have hP : k + 1 ≤ l.length + 1 ∧ (endsR st l ≤ a ∨ k + 1 ≤ (upto a (timesR st l)).length) := by
          rcases HP.out with h | h
          · exact absurd h (by rw [← HN.out]; exact hov)
          · refine ⟨Nat.succ_le_succ (Nat.le_trans h upto_max), ?_⟩
            rcases hg.more with h' | h'
            · exact .inr (by omega)
            · exact .inl h'
        obtain ⟨hk1, hP2⟩ := hP
        have HP2 := Lib.hid hP2
        clear hn hg hna hov hP2 HP
        go_wp2_with fail
        refine Hn.out.mono ?_
        rintro e w4 ⟨hn, hf⟩
        have hn' : e = .returned (.tuple #[.int .i64 a, .bool true]) := hn
        subst hn'
        clear hn
        have F4 := Lib.hid (F.out.then_no hf)
        have R4 := Lib.hid (R.out.fr hf)
        clear hf R F
        have he := fun W h => rwends_any W G g l st u (R4.out.fr h)
        rw [← HN.out] at he
        have He := Lib.hid he
        clear he
        by_cases hs : u < a - 1 ∧ st < a
        · obtain ⟨hs1, hs2⟩ := hs
          go_wp2_with (go_at_call 12; refine (He.out _ (Fr.refl _ _)).mono ?_; rintro e w6 ⟨rfl, rfl⟩)
          refine (step_any _ _ _ _ _ u (a - 1) HF.out R4.out (by omega) (by omega)).mono ?_
          intro e w5 hp
          obtain ⟨A5, c5, rfl, h1, h2, h3⟩ := hp.known HGo.out.ahead rfl
          have R5 := Lib.hid h2
          have F5 := Lib.hid (F4.out.trans h3 fun k hk hl => by
            have hk : k = g := hk
            have := HG.out g R4.out.has.1
            omega)
          clear h1 h2 h3 hp R4 F4 He
          go_wp2_with fail
          have hsm := HGo.out.some (a - 1) (by omega) (by omega)
          have HS := Lib.hid hsm
          clear hsm
          refine (step_any _ _ _ _ _ (a - 1) a HF.out R5.out (by omega) (by omega)).mono ?_
          intro e w7 hp
          obtain ⟨L, hL⟩ : ∃ L, L = dueT (a - 1) a (timesR st l) := ⟨_, rfl⟩
          have HL := Lib.hid hL
          obtain ⟨n, hn⟩ : ∃ n, n = L.length := ⟨_, rfl⟩
          obtain ⟨A7, c7, rfl, h1, h2, h3⟩ := hp.known hL.symm hn.symm
          have hgW := HG.out g R5.out.has.1
          have R7 := Lib.hid h2
          have F7 := Lib.hid (F5.out.trans h3 fun k hk hl => by have hk : k = g := hk; omega)
          have hd := rdone_any w7 G g l st a h2
          rw [← HN.out] at hd
          have hnn : ((n : Int) == 0) = false ∨ ((n : Int) == 0) = true ∧ decide (ends ≤ a) = true := by
            by_cases e : n = 0
            · rcases HS.out with h | h
              · exact absurd (by rw [← hL]; exact List.eq_nil_of_length_eq_zero (by omega)) h
              · exact .inr ⟨by rw [e]; rfl, by rw [HN.out]; exact decide_eq_true h⟩
            · exact .inl (beq_eq_false_iff_ne.2 (by omega))
          clear h1 h2 h3 hp hL hn
          rcases hnn with hnn | ⟨hnn, hdd⟩
          · clear hd
            go_wp2_with fail
            go_roundw
            case rel => exact ⟨k + 1, a, by go_num, rfl, by omega, by omega, HP2.out, R7.out, F7.out⟩
            case measure => simp [intOf]; omega
          · rw [hdd] at hd
            have Hd := Lib.hid hd
            clear hd hdd
            go_wp2_with (go_at_call 16; refine Hd.out.mono ?_; rintro e w8 ⟨rfl, rfl⟩)
            go_roundw
            case rel => exact ⟨k + 1, a, by go_num, rfl, by omega, by omega, HP2.out, R7.out, F7.out⟩
            case measure => simp [intOf]; omega
        · have hs : a - 1 ≤ u := by omega
          go_wp2_with (go_at_call 12; refine (He.out _ (Fr.refl _ _)).mono ?_; rintro e w6 ⟨rfl, rfl⟩)
          have hsm := HGo.out.some u (by omega) (by omega)
          have HS := Lib.hid hsm
          clear hsm
          refine (step_any _ _ _ _ _ u a HF.out R4.out (by omega) (by omega)).mono ?_
          intro e w7 hp
          obtain ⟨L, hL⟩ : ∃ L, L = dueT u a (timesR st l) := ⟨_, rfl⟩
          have HL := Lib.hid hL
          obtain ⟨n, hn⟩ : ∃ n, n = L.length := ⟨_, rfl⟩
          obtain ⟨A7, c7, rfl, h1, h2, h3⟩ := hp.known hL.symm hn.symm
          have hgW := HG.out g R4.out.has.1
          have R7 := Lib.hid h2
          have F7 := Lib.hid (F4.out.trans h3 fun k hk hl => by have hk : k = g := hk; omega)
          have hd := rdone_any w7 G g l st a h2
          rw [← HN.out] at hd
          have hnn : ((n : Int) == 0) = false ∨ ((n : Int) == 0) = true ∧ decide (ends ≤ a) = true := by
            by_cases e : n = 0
            · rcases HS.out with h | h
              · exact absurd (by rw [← hL]; exact List.eq_nil_of_length_eq_zero (by omega)) h
              · exact .inr ⟨by rw [e]; rfl, by rw [HN.out]; exact decide_eq_true h⟩
            · exact .inl (beq_eq_false_iff_ne.2 (by omega))
          clear h1 h2 h3 hp hL hn
          rcases hnn with hnn | ⟨hnn, hdd⟩
          · clear hd
            go_wp2_with fail
            go_roundw
            case rel => exact ⟨k + 1, a, by go_num, rfl, by omega, by omega, HP2.out, R7.out, F7.out⟩
            case measure => simp [intOf]; omega
          · rw [hdd] at hd
            have Hd := Lib.hid hd
            clear hd hdd
            go_wp2_with (go_at_call 16; refine Hd.out.mono ?_; rintro e w8 ⟨rfl, rfl⟩)
            go_roundw
            case rel => exact ⟨k + 1, a, by go_num, rfl, by omega, by omega, HP2.out, R7.out, F7.out⟩
            case measure => simp [intOf]; omega
  · have HC := Lib.hid hc
    obtain ⟨c, hcc⟩ : ∃ c, c = chk st l := ⟨_, rfl⟩
    have HCC := Lib.hid hcc
    have hc0 : (c != 0) = true := by rw [hcc]; simpa using hc
    clear hc hcc
    go_enter Try.func5, Try.ntmps5
    go_wp2_with (first
      | (go_at_call 11; refine (rcheck_any _ l st _ _ (fun k hk => hk) H0.out (by omega)).mono ?_; rintro e w1 ⟨rfl, hf⟩; rw [← HCC.out]; have F1 := Lib.hid hf; clear hf)
      | (go_at_call 9; refine (works_any _).mono ?_; rintro e w' ⟨rfl, hf⟩; have Hf := Lib.hid hf; clear hf))
    go_ret
    exact ⟨rfl, F1.out.then_no Hf.out⟩
end Run
end Go.Proofs.Ytagkhljcknnhmaa
