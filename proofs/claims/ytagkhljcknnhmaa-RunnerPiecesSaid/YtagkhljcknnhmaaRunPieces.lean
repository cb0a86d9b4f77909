/- Statement RunnerPieces of package runner. -/
import Derived.Test.YtagkhljcknnhmaaRunTells
namespace Go.Proofs.Ytagkhljcknnhmaa
open Go.RowKit
set_option linter.unusedVariables false
set_option linter.unusedSimpArgs false
namespace Run
theorem due_cat {a u v x : Int} {l : List T} (h : Up a l) (hu : u ≤ v) (hv : v ≤ x) : dueT u v l ++ dueT v x l = dueT u x l := by
  induction l generalizing a with
  | nil => rfl
  | cons z l ih =>
    obtain ⟨h1, h2⟩ := h.cons
    have i := ih h2
    by_cases hz : z.1 ≤ v
    · have e1 : dueT v x (z :: l) = dueT v x l := by unfold dueT; rw [List.filter_cons_of_neg (by simp; omega)]
      rw [e1]
      by_cases hp : z.2.1 ≠ 2 ∧ u < z.1
      · have e2 : dueT u v (z :: l) = z.2 :: dueT u v l := by unfold dueT; rw [List.filter_cons_of_pos (by simp; exact ⟨hp.1, hp.2, hz⟩)]; rfl
        have e3 : dueT u x (z :: l) = z.2 :: dueT u x l := by unfold dueT; rw [List.filter_cons_of_pos (by simp; exact ⟨hp.1, hp.2, by omega⟩)]; rfl
        rw [e2, e3, ← i]; rfl
      · have e2 : dueT u v (z :: l) = dueT u v l := by unfold dueT; rw [List.filter_cons_of_neg (by simp; intro h1 h2; exact absurd ⟨h1, h2⟩ hp)]
        have e3 : dueT u x (z :: l) = dueT u x l := by unfold dueT; rw [List.filter_cons_of_neg (by simp; intro h1 h2; exact absurd ⟨h1, h2⟩ hp)]
        rw [e2, e3, i]
    · have e2 : dueT u v (z :: l) = [] := by
        apply due_none
        intro y hy
        rcases List.mem_cons.1 hy with rfl | hy
        · omega
        · have := h2.1 y hy; omega
      rw [e2, List.nil_append]
      unfold dueT
      congr 1
      apply List.filter_congr
      intro y hy
      have : v < y.1 := by
        rcases List.mem_cons.1 hy with rfl | hy
        · omega
        · have := h2.1 y hy; omega
      simp [this, show u < y.1 by omega]
theorem due_same {u : Int} {l : List T} : dueT u u l = [] := by
  unfold dueT
  rw [List.filter_eq_nil_iff.2 (fun x hx => by simp)]
  rfl
/-- All that is no wait. -/
def acts (l : List O) : List O := l.filter (fun x => x.1 != 2)
theorem due_all {start u v : Int} {l : List O} (hck : chkR start l = 0) (hu : u < start) (hv : endsR start l ≤ v) : dueT u v (timesR start l) = acts l := by
  obtain ⟨u1, u2, u3⟩ := times_up hck
  have : dueT u v (timesR start l) = ((timesR start l).filter (fun x => x.2.1 != 2)).map (·.2) := by
    unfold dueT
    congr 1
    apply List.filter_congr
    intro y hy
    have := u1.1 y hy
    have := u2 y hy
    simp [show u < y.1 by omega, show y.1 ≤ v by omega]
  rw [this]
  unfold acts
  conv => rhs; rw [← times_snd start l]
  rw [List.filter_map]
  rfl
theorem due_over {start u v : Int} {l : List O} (hck : chkR start l = 0) (hu : endsR start l ≤ u) : dueT u v (timesR start l) = [] := by
  obtain ⟨u1, u2, u3⟩ := times_up hck
  unfold dueT
  rw [List.filter_eq_nil_iff.2 (fun x hx => by have := u2 x hx; simp; intro _ h; omega)]
  rfl
theorem due_len {u v start : Int} {l : List O} : (dueT u v (timesR start l)).length ≤ l.length := by
  unfold dueT
  rw [List.length_map]
  exact Nat.le_trans (List.length_filter_le _ _) (by rw [times_len]; exact Nat.le_refl _)
theorem acts_take {l : List O} {k : Nat} (h : k < l.length) : acts (l.take (k + 1)) = if (l[k].1 != 2) = true then acts (l.take k) ++ [l[k]] else acts (l.take k) := by
  unfold acts
  rw [List.take_succ_eq_append_getElem h, List.filter_append]
  cases e : l[k].1 != 2 <;> simp [List.filter, e]
theorem acts_len (l : List O) : (acts l).length ≤ l.length := List.length_filter_le _ _
theorem own_zero {w : World} {base : Nat} {e : TypeId} {size n : Nat} {v : Value} {xs : List Value} (h : w.ownsRow base e size v n xs) : w.ownsRow 0 e size v n xs := by
  obtain ⟨h1, h2⟩ := h
  refine ⟨h1, ?_⟩
  rcases h2 with h2 | ⟨g, cap, cur, a, b, c⟩
  · exact .inl h2
  · exact .inr ⟨g, cap, cur, a, Nat.zero_le _, c⟩
/-- What was got so far, and the two runners. -/
structure PI (W wr : World) (G G' : Nat → Prop) (g g' : Nat) (l : List O) (v : Int) (o : Value) (got : List O) : Prop where
  r : RW wr G g l 5 v
  q : RW wr G' g' l 5 4
  gv : got = dueT 4 v (timesR 5 l)
  own : wr.ownsRow 0 42 3 o got.length (got.flatMap encO)
  dis : ∀ k, Of o k → (¬ G k ∧ ¬ G' k) ∧ W.heap.size ≤ k
  fr : Fr No W wr
theorem PI.stepped {W wr w1 w3 : World} {G G' : Nat → Prop} {g g' : Nat} {l L got : List O} {v u : Int} {o o' : Value} (h : PI W wr G G' g g' l v o got) (hck : chkR 5 l = 0) (hv : 4 ≤ v) (hu : v ≤ u) (hd : ∀ k, G' k → ¬ G k) (hG : ∀ k, G k → W.heap.size ≤ k)
    (h1 : RW w1 G g l 5 u) (h2 : Fr (fun k => k = g) wr w1) (hL : L = dueT v u (timesR 5 l))
    (h3 : w3.ownsRow 0 42 3 o' (got.length + L.length) (got.flatMap encO ++ L.flatMap encO)) (h4 : Fr (Of o) w1 w3) (h5 : ∀ k, Of o' k → Of o k ∨ New w1 w3 k) : PI W w3 G G' g g' l u o' (got ++ L) := by
  refine ⟨h1.far h4 (fun k hk he => (h.dis k he).1.1 hk), ?_, ?_, ?_, fun k hk => ?_, ?_⟩
  · exact (h.q.far h2 (fun k hk he => hd k hk (by have he : k = g := he; rw [he]; exact h1.has.1))).far h4 (fun k hk he => (h.dis k he).1.2 hk)
  · rw [h.gv, hL]; exact due_cat (times_up hck).1 hv hu
  · rw [List.length_append, List.flatMap_append]; exact h3
  · rcases h5 k hk with hk | hk
    · exact h.dis k hk
    · have a1 := h1.has.2
      have a2 := (h.q.far h2 (fun k hk he => hd k hk (by have he : k = g := he; rw [he]; exact h1.has.1))).has.2
      refine ⟨⟨fun x => ?_, fun x => ?_⟩, ?_⟩
      · have := a1 k x; have := hk.1; omega
      · have := a2 k x; have := hk.1; omega
      · exact Nat.le_trans (Nat.le_trans h.fr.size h2.size) hk.1
  · refine (h.fr.trans h2 fun k hk hl => ?_).trans h4 fun k hk hl => ?_
    · have hk : k = g := hk
      have := hG g h1.has.1
      omega
    · have := (h.dis k hk).2; omega
theorem PI.quiet {W wr w1 : World} {G G' : Nat → Prop} {g g' : Nat} {l got : List O} {v : Int} {o : Value} (h : PI W wr G G' g g' l v o got) (hf : Fr No wr w1) : PI W w1 G G' g g' l v o got :=
  ⟨h.r.fr hf, h.q.fr hf, h.gv, own_fr h.own hf (fun _ _ h => h), h.dis, h.fr.then_no hf⟩
theorem PI.len {W wr : World} {G G' : Nat → Prop} {g g' : Nat} {l got : List O} {v : Int} {o : Value} (h : PI W wr G G' g g' l v o got) : got.length ≤ l.length := by rw [h.gv]; exact due_len
set_option maxRecDepth 100000 in
set_option maxHeartbeats 10000000 in
theorem walk_RunnerPieces (W : World) (v0 : Value) (l : List O) (h0 : (RSl 3 ROp) W (Ahead W.heap.size) [v0] l) (v1 : Value) (ticks : List Int) (h1 : (RSl 1 (RInt .u8)) W (Ahead W.heap.size) [v1] ticks) :
    Calls Try.prog 4 #[v0, v1] W fun e w' => e = .returned (.bool true) ∧ Fr No W w' := by
  have H0 := Lib.hid h0
  obtain ⟨A, cap, rfl, hc1, hc2, hel⟩ := op_cells h0
  obtain ⟨B, cap', rfl, hd1, hd2, hel2⟩ := h1.ints
  have HE := Lib.hid hel2
  have HEl := Lib.hid hel
  clear h0 hel h1 hel2
  unfold maxLen at hc2 hd2
  by_cases b0 : 40 < l.length
  · go_enter Try.func4, Try.ntmps4
    go_wp2_with (go_at_call 9; refine (works_any _).mono ?_; rintro e w' ⟨rfl, hf⟩; have Hf := Lib.hid hf; clear hf)
    go_ret
    exact ⟨rfl, Hf.out⟩
  by_cases b1 : 60 < ticks.length
  · go_enter Try.func4, Try.ntmps4
    go_wp2_with (go_at_call 9; refine (works_any _).mono ?_; rintro e w' ⟨rfl, hf⟩; have Hf := Lib.hid hf; clear hf)
    go_ret
    exact ⟨rfl, Hf.out⟩
  have HW := Lib.hid (ops_wf H0.out)
  by_cases hc : chk 5 l = 0
  · have HC := Lib.hid hc
    have HF := Lib.hid (show Fit l 5 from ⟨by omega, by unfold chk at hc; rwa [if_pos (by decide)] at hc, by omega, HW.out⟩)
    clear hc
    go_enter Try.func4, Try.ntmps4
    go_wp2_with (go_at_call 11; refine (rcheck_any _ l 5 _ _ (fun k hk => hk) H0.out (by omega)).mono ?_; rintro e w1 ⟨rfl, hf⟩; rw [HC.out]; have F1 := Lib.hid hf; clear hf)
    refine (new_any _ l 5 _ _ (ahead_fr H0.out F1.out).2 (ahead_fr H0.out F1.out).1 (by omega)).mono ?_
    intro e w2 hp
    obtain ⟨g, G, rfl, hR, hf, hG⟩ := hp.yes HC.out
    have R2 := Lib.hid (hR.rw (was := 4) HF.out.ck (by omega))
    have HG := Lib.hid (fun k hk => Nat.le_trans F1.out.size (hG k hk).1)
    have F2 := Lib.hid (F1.out.then_no hf)
    clear hR hf hG hp
    go_wp2_with fail
    refine (new_any _ l 5 _ _ (ahead_fr H0.out F2.out).2 (ahead_fr H0.out F2.out).1 (by omega)).mono ?_
    intro e w3 hp
    obtain ⟨g', G', rfl, hR, hf, hG⟩ := hp.yes HC.out
    have Q3 := Lib.hid (hR.rw (was := 4) HF.out.ck (by omega))
    have R3 := Lib.hid (R2.out.fr hf)
    have HD := Lib.hid (show ∀ k, G' k → ¬ G k from fun k hk hk2 => by
      have h1 := (hG k hk).1
      have h2 := R2.out.has.2 k hk2
      omega)
    have HG' := Lib.hid (fun k hk => Nat.le_trans F2.out.size (hG k hk).1)
    have F3 := Lib.hid (F2.out.then_no hf)
    clear hR hf hG hp R2 F2 F1
    obtain ⟨ends, hends⟩ : ∃ ends, ends = endsR 5 l := ⟨_, rfl⟩
    have HN := Lib.hid hends
    have hem : 5 ≤ ends ∧ ends ≤ 1099511627776 := by rw [hends]; exact ⟨(times_up HF.out.ck).2.2, ends_max HF.out.ck (by omega)⟩
    clear hends
    have P0 : Hid (PI W w3 G G' g g' l 4 (.slice none 0 0) []) := Lib.hid ⟨R3.out, Q3.out, due_same.symm, World.ownsRow_nil _ _ _ _, fun k hk => (by cases hk), F3.out⟩
    go_wp2_with fail
    go_loopw [9, 10, 11] (fun o ev iv wr => ∃ (k m : Nat) (u v : Int) (got : List O), iv = .int .i64 k ∧ ev = .int .i64 u ∧ k ≤ ticks.length ∧ (5 ≤ u ∧ u ≤ 5 + 255 * k) ∧ (4 ≤ v ∧ v ≤ u ∧ (0 < k → v = u) ∧ (k = 0 → v = 4)) ∧ m ≤ 40 ∧ Hid (m = got.length) ∧ Hid (PI W wr G G' g g' l v o got)) (fun _ _ i _ => ticks.length - (intOf i).toNat)
    case atStart => exact ⟨0, 0, 5, 4, [], rfl, rfl, by omega, by omega, by omega, by omega, rfl, P0.out⟩
    case round =>
      clear P0 R3 Q3 F3
      obtain ⟨k, m, u, v, got, rfl, rfl, hk, hu, hv, hm, Hm, HP⟩ := hrel
      obtain ⟨A1, c1, ho⟩ := own_form HP.out.own
      rw [← Hm.out] at ho
      subst ho
      by_cases hlt : k < ticks.length
      · obtain ⟨ad, rfl, hSa, q1, q2⟩ := HE.out k hlt
        obtain ⟨t, ht⟩ : ∃ t, t = ticks[k] := ⟨_, rfl⟩
        rw [← ht] at q1 q2
        have q3 := (HP.out.fr.cell (p := ad.add k) (by rw [block_add]; exact hSa) (fun h => h)).trans q1
        have q4 : 0 ≤ t ∧ t ≤ 255 := by simpa [Lit.wf, IntKind.min, IntKind.max, IntKind.signed, IntKind.bits] using q2
        clear ht q1 q2
        go_wp2_with fail
        refine (step_any _ _ _ _ _ v (u + t) HF.out HP.out.r (by omega) (by omega)).mono ?_
        intro e w4 hp
        obtain ⟨L, hL⟩ : ∃ L, L = dueT v (u + t) (timesR 5 l) := ⟨_, rfl⟩
        obtain ⟨n, hn⟩ : ∃ n, n = L.length := ⟨_, rfl⟩
        have hn40 : n ≤ 40 := by rw [hn, hL]; exact Nat.le_trans due_len (by omega)
        obtain ⟨A7, c7, rfl, h1, h2, h3⟩ := hp.known hL.symm hn.symm
        have R7 := Lib.hid h2
        have f7 := Lib.hid h3
        have O7 := Lib.hid h1
        have Hn := Lib.hid hn
        have HL := Lib.hid hL
        have O4 := Lib.hid (show w4.ownsRow 0 42 3 (.slice A1 m c1) m (got.flatMap encO) by
          have := own_fr HP.out.own h3 (fun k hk he => (HP.out.dis k hk).1.1 (by have he : k = g := he; rw [he]; exact HP.out.r.has.1))
          rwa [← Hm.out] at this)
        clear h1 h2 h3 hp hL hn
        go_wp2_with (at_builtin; go_loud (refine wp_app (news := L.flatMap encO) rfl (.tmp 57) (.tmp 60) 22 rfl 42 (.agg #[.int .i64 0, .string ByteArray.empty, .int .i64 0]) 3 32 Try.underlying22 infoO rfl (by decide) (.slice A1 m c1) m (got.flatMap encO) rfl O4.out rfl (by rw [encO_len, ← Hn.out]) (own_news O7.out) (encO_one L) (by omega) (by unfold maxLen; omega) ?_; intro v' w5 h8 h9 h10; have P5 := Lib.hid (HP.out.stepped HF.out.ck (by omega) (by omega) HD.out HG.out R7.out f7.out HL.out (by rw [← Hm.out, ← Hn.out]; exact h8) h9 h10); clear h8 h9 h10))
        go_roundw
        case rel =>
          have hlen := P5.out.len
          exact ⟨k + 1, m + n, u + t, u + t, got ++ L, by go_num, rfl, by omega, by omega, by omega, by have := Hm.out; have := Hn.out; rw [List.length_append] at hlen; omega, (show m + n = (got ++ L).length by rw [List.length_append, ← Hm.out, ← Hn.out]), P5.out⟩
        case measure => simp [intOf]; omega
      · have hkl : k = ticks.length := by omega
        by_cases ht0 : ticks.length = 0
        · have ht1 : ((ticks.length : Int) == 0) = true := by rw [ht0]; rfl
          have hv4 : v = 4 := by omega
          subst hv4
          go_wp2_with fail
          refine (step_any _ _ _ _ _ 4 u HF.out HP.out.r (by omega) (by omega)).mono ?_
          intro e w4 hp
          obtain ⟨got, hL⟩ : ∃ L, L = dueT 4 u (timesR 5 l) := ⟨_, rfl⟩
          obtain ⟨m, hn⟩ : ∃ n, n = got.length := ⟨_, rfl⟩
          have hm1 : m ≤ 40 := by rw [hn, hL]; exact Nat.le_trans due_len (by omega)
          obtain ⟨A1, c1, rfl, h1, h2, h3⟩ := hp.known hL.symm hn.symm
          have P7 : Hid (PI W w4 G G' g g' l u (.slice A1 m c1) got) := Lib.hid ⟨h2, HP.out.q.far h3 (fun k hk he => HD.out k hk (by have he : k = g := he; rw [he]; exact HP.out.r.has.1)), hL, (by rw [← hn]; exact own_zero h1), fun k hk => by
              have := (h1.lt k hk).1
              refine ⟨⟨fun x => ?_, fun x => ?_⟩, Nat.le_trans HP.out.fr.size this⟩
              · have := HP.out.r.has.2 k x; omega
              · have := HP.out.q.has.2 k x; omega, HP.out.fr.trans h3 fun k hk hl => by
              have hk : k = g := hk
              have := HG.out g HP.out.r.has.1
              omega⟩
          have Hn := Lib.hid hn
          clear h1 h2 h3 hp hL hn HP Hm hm hv
          have HP := P7
          have Hm := Hn
          have hm := hm1
          clear P7 Hn hm1
          go_wp2_with fail
          refine (step_any _ _ _ _ _ 4 u HF.out HP.out.q (by omega) (by omega)).mono ?_
          intro e w4 hp
          obtain ⟨A5, c5, rfl, h1, h2, h3⟩ := hp.known HP.out.gv.symm Hm.out.symm
          have O5 := Lib.hid h1
          have RB := Lib.hid h2
          have RA := Lib.hid (HP.out.r.far h3 (fun k hk he => HD.out g' HP.out.q.has.1 (by have he : k = g' := he; rw [← he]; exact hk)))
          have O4 := Lib.hid (show w4.ownsRow 0 42 3 (.slice A1 m c1) m (got.flatMap encO) by
            have := own_fr HP.out.own h3 (fun k hk he => (HP.out.dis k hk).1.2 (by have he : k = g' := he; rw [he]; exact HP.out.q.has.1))
            rwa [← Hm.out] at this)
          have F4 := Lib.hid (HP.out.fr.trans h3 fun k hk hl => by
            have hk : k = g' := hk
            have := HG'.out g' HP.out.q.has.1
            omega)
          have HDi := Lib.hid (show ∀ k, Of (.slice A1 m c1) k → ¬ G k ∧ W.heap.size ≤ k from fun k hk => ⟨(HP.out.dis k hk).1.1, (HP.out.dis k hk).2⟩)
          have HGv := Lib.hid HP.out.gv
          clear h1 h2 h3 hp HP
          have hwf : ∀ x ∈ got, wfO x := by rw [HGv.out]; exact due_wf HW.out
          have hs := same_any (.slice A1 m c1) (.slice A5 m c5) got got w4 _ _ (own_ops (by rw [← Hm.out]; exact O4.out) hwf) (own_ops (by rw [← Hm.out]; exact O5.out) hwf)
          rw [decide_eq_true rfl] at hs
          have Hs := Lib.hid hs
          have hda := fun n => rdone_any (w4.drewN n) G g l 5 u (RA.out.fr ((Fr.refl No _).drewN n))
          have hdb := fun n => rdone_any (w4.drewN n) G' g' l 5 u (RB.out.fr ((Fr.refl No _).drewN n))
          rw [← HN.out] at hda hdb
          have hea := fun n => rwends_any (w4.drewN n) G g l 5 u (RA.out.fr ((Fr.refl No _).drewN n))
          have heb := fun n => rwends_any (w4.drewN n) G' g' l 5 u (RB.out.fr ((Fr.refl No _).drewN n))
          rw [← HN.out] at hea heb
          have Hea := Lib.hid hea
          have Heb := Lib.hid heb
          clear hs hwf hea heb
          obtain ⟨x, hx⟩ : ∃ x, x = max u ends := ⟨_, rfl⟩
          have hx2 : ends ≤ x ∧ u ≤ x ∧ x ≤ 1099511627776 := by omega
          have HX := Lib.hid hx
          clear hx
          have hcase : (decide (ends ≤ u) = false ∧ u < ends) ∨ (decide (ends ≤ u) = true ∧ u = ends) ∨ (decide (ends ≤ u) = true ∧ ends < u ∧ ends ≤ u) := by
            rcases Int.lt_trichotomy u ends with h | h | h
            · exact .inl ⟨decide_eq_false (by omega), h⟩
            · exact .inr (.inl ⟨decide_eq_true (by omega), h⟩)
            · exact .inr (.inr ⟨decide_eq_true (by omega), h, by omega⟩)
          rcases hcase with ⟨hdd, hue⟩ | ⟨hdd, hue⟩ | ⟨hdd, hue, hue2⟩
          all_goals try (exfalso; omega)
          all_goals
            rw [hdd] at hda hdb
            have Hda := Lib.hid hda
            have Hdb := Lib.hid hdb
            clear hda hdb hdd
            go_wp2_with fail
            refine Hs.out.mono ?_
            rintro e w5 ⟨rfl, n5, rfl⟩
            go_wp2_with fail
            refine (Hda.out n5).mono ?_
            rintro e w6 ⟨rfl, rfl⟩
            go_wp2_with fail
            refine (Hdb.out n5).mono ?_
            rintro e w6 ⟨rfl, rfl⟩
            go_wp2_with fail
            refine (Hdb.out n5).mono ?_
            rintro e w6 ⟨rfl, rfl⟩
            go_wp2_with fail
            refine (Heb.out n5).mono ?_
            rintro e w6 ⟨rfl, rfl⟩
            go_wp2_with fail
            refine (Hea.out n5).mono ?_
            rintro e w6 ⟨rfl, rfl⟩
            go_wp2_with fail
            first
              | with_reducible refine (step_any _ _ _ _ _ u ends HF.out (RA.out.fr ((Fr.refl No _).drewN n5)) (by omega) (by omega)).mono ?_
              | with_reducible refine (step_any _ _ _ _ _ u u HF.out (RA.out.fr ((Fr.refl No _).drewN n5)) (by omega) (by omega)).mono ?_
            intro e w7 hp
            have hp : StepIs (w4.drewN n5) G g l 5 u x e w7 := by
              first
                | (have hx : x = ends := by
                     have := HX.out
                     omega
                   rw [hx]; exact hp)
                | (have hx : x = u := by
                     have := HX.out
                     omega
                   rw [hx]; exact hp)
            obtain ⟨L, hL⟩ : ∃ L, L = dueT u x (timesR 5 l) := ⟨_, rfl⟩
            obtain ⟨n, hn⟩ : ∃ n, n = L.length := ⟨_, rfl⟩
            have hn40 : n ≤ 40 := by rw [hn, hL]; exact Nat.le_trans due_len (by omega)
            obtain ⟨A7, c7, rfl, h1, h2, h3⟩ := hp.known hL.symm hn.symm
            have hgl : got ++ L = acts l := by
              rw [HGv.out, hL, due_cat (times_up HF.out.ck).1 (by omega) (by omega), due_all HF.out.ck (by omega) (by rw [← HN.out]; omega)]
            have HGL := Lib.hid hgl
            have hln : (acts l).length = m + n := by rw [← hgl, List.length_append, ← Hm.out, ← hn]
            have HLN := Lib.hid hln
            have R7 := Lib.hid h2
            have O7 := Lib.hid h1
            have Hn := Lib.hid hn
            have O6 := Lib.hid (own_fr (own_fr O4.out ((Fr.refl No _).drewN n5) (fun _ _ h => h)) h3 (fun k hk he => (HDi.out k hk).1 (by have he : k = g := he; rw [he]; exact RA.out.has.1)))
            have F7 := Lib.hid ((F4.out.drewN n5).trans h3 fun k hk hl => by
              have hk : k = g := hk
              have := HG.out g RA.out.has.1
              omega)
            clear h1 h2 h3 hp hL hn hgl hln
            go_wp2_with (at_builtin; go_loud (refine wp_app (news := L.flatMap encO) rfl (.tmp 90) (.tmp 96) 22 rfl 42 (.agg #[.int .i64 0, .string ByteArray.empty, .int .i64 0]) 3 32 Try.underlying22 infoO rfl (by decide) (.slice A1 m c1) m (got.flatMap encO) rfl O6.out rfl (by rw [encO_len, ← Hn.out]) (own_news O7.out) (encO_one L) (by omega) (by unfold maxLen; omega) ?_; intro v' w8 h8 h9 h10; rw [← List.flatMap_append, HGL.out] at h8; obtain ⟨A8, c8, hu⟩ := own_form h8; subst hu; have O8 := Lib.hid h8; have R8 := Lib.hid (R7.out.far h9 (fun k hk he => (HDi.out k he).1 hk)); have F8 := Lib.hid (F7.out.trans h9 fun k hk hl => by have := (HDi.out k hk).2; omega); clear h8 h9 h10))
            go_loopw [12, 13] (fun o iv wr => ∃ (k j : Nat), iv = .int .i64 k ∧ k ≤ l.length ∧ j ≤ k ∧ Hid (j = (acts (l.take k)).length) ∧ Hid (wr.ownsRow 0 42 3 o j ((acts (l.take k)).flatMap encO) ∧ Step No w8 (Of o) wr)) (fun _ i _ => l.length - (intOf i).toNat)
            case atStart => exact ⟨0, 0, rfl, by omega, by omega, rfl, World.ownsRow_nil _ _ _ _, Fr.refl _ _, fun k hk => by cases hk⟩
            case round =>
              obtain ⟨k, j, rfl, hk, hj, Hj, Hd⟩ := hrel
              obtain ⟨d1, d2⟩ := Hd.out
              obtain ⟨A9, c9, hu⟩ := own_form d1
              subst hu
              by_cases hlt : k < l.length
              · obtain ⟨ad, rfl, hSa, q1, q2, q3, _⟩ := HEl.out k hlt
                obtain ⟨y, hy⟩ : ∃ y, y = l[k] := ⟨_, rfl⟩
                rw [← hy] at q1 q2 q3
                have hat := acts_take hlt
                rw [← hy] at hat
                have ff := F8.out.then_no d2.1
                have k1 : wr.cell? (ad.add (k * 3)) = some (.int .i64 y.1) := (ff.cell (by rw [block_add]; exact hSa) (fun h => h)).trans q1
                have k2 : wr.cell? ⟨(ad.add (k * 3)).block, (ad.add (k * 3)).off + 1, none⟩ = some (.string ⟨y.2.1.toArray⟩) := (ff.cell (by show (ad.add (k * 3)).block < _; rw [block_add]; exact hSa) (fun h => h)).trans q2
                have k3 : wr.cell? ⟨(ad.add (k * 3)).block, (ad.add (k * 3)).off + 2, none⟩ = some (.int .i64 y.2.2) := (ff.cell (by show (ad.add (k * 3)).block < _; rw [block_add]; exact hSa) (fun h => h)).trans q3
                have hbk : (ad.add (k * 3)).block < wr.heap.size := by rw [block_add]; exact Nat.lt_of_lt_of_le hSa ff.size
                have hbn : (ad.add (k * 3)).block ≠ wr.heap.size := by omega
                have D1 := Lib.hid d1
                have D2 := Lib.hid d2
                clear q1 q2 q3 hy d1 d2 Hd ff
                cases e1 : y.1 != 2
                · rw [e1, if_neg (by decide)] at hat
                  have HA := Lib.hid hat
                  clear hat
                  go_wp2
                  go_roundw
                  case rel => exact ⟨k + 1, j, by go_num, by omega, by omega, by show j = _; rw [HA.out]; exact Hj.out, by rw [HA.out]; exact ⟨D1.out, D2.out⟩⟩
                  case measure => simp [intOf]; omega
                · rw [e1, if_pos rfl] at hat
                  have HA := Lib.hid hat
                  clear hat
                  go_wp2_with (at_builtin; go_loud (refine wp_push rfl (.tmp 110) (.tmp 115) 22 rfl 42 (.agg #[.int .i64 0, .string ByteArray.empty, .int .i64 0]) 3 32 Try.underlying22 infoO rfl (by decide) _ _ _ rfl D1.out #[.int .i64 y.1, .string ⟨y.2.1.toArray⟩, .int .i64 y.2.2] rfl rfl (by intro u hu; simp at hu; rcases hu with rfl | rfl | rfl <;> rfl) (by omega) (by unfold maxLen; omega) ?_; intro g2 cap2 w2 h1 h2 h3; have P2 := Lib.hid h1; have F2 := Lib.hid (D2.out.trans (Step.of (n := j + 1) (c := cap2) h2 h3)); clear h1 h2 h3))
                  go_roundw
                  case rel =>
                    refine ⟨k + 1, j + 1, by go_num, by omega, by omega, by show j + 1 = _; rw [HA.out, List.length_append, ← Hj.out]; rfl, ?_, F2.out⟩
                    rw [HA.out, List.flatMap_append]
                    exact P2.out
                  case measure => simp [intOf]; omega
              · have hkl : k = l.length := by omega
                have hj2 : j = m + n := by rw [Hj.out, hkl, List.take_length]; exact HLN.out
                subst hj2
                rw [hkl, List.take_length] at d1
                have D1 := Lib.hid d1
                have D2 := Lib.hid d2
                have O9 := Lib.hid (own_fr O8.out d2.1 (fun _ _ h => h))
                have R9 := Lib.hid (R8.out.fr d2.1)
                have F9 := Lib.hid (F8.out.then_no d2.1)
                clear d1 d2 Hd Hj
                have hwf2 : ∀ x ∈ acts l, wfO x := fun x hx => HW.out x (List.mem_filter.1 hx).1
                have hs2 := same_any (.slice A8 (m + n) c8) (.slice A9 (m + n) c9) (acts l) (acts l) wr _ _ (own_ops (by rw [HLN.out]; exact O9.out) hwf2) (own_ops (by rw [HLN.out]; exact D1.out) hwf2)
                rw [decide_eq_true rfl] at hs2
                have Hs2 := Lib.hid hs2
                clear hs2 hwf2
                go_wp2_with fail
                refine Hs2.out.mono ?_
                rintro e w10 ⟨rfl, n10, rfl⟩
                have R10 := Lib.hid (R9.out.fr ((Fr.refl No _).drewN n10))
                have hd10 := rdone_any _ _ _ _ _ _ R10.out
                rw [← HN.out, decide_eq_true (by omega)] at hd10
                have Hd10 := Lib.hid hd10
                clear hd10
                go_wp2_with fail
                refine Hd10.out.mono ?_
                rintro e w11 ⟨rfl, rfl⟩
                go_wp2_with fail
                refine (step_any _ _ _ _ _ x 1099511627776 HF.out R10.out (by omega) (by omega)).mono ?_
                intro e w12 hp
                have hdo : dueT x 1099511627776 (timesR 5 l) = [] := due_over HF.out.ck (by rw [← HN.out]; omega)
                obtain ⟨A12, c12, rfl, h1, h2, h3⟩ := hp.known (L := []) (n := 0) hdo rfl
                have F12 := Lib.hid ((F9.out.drewN n10).trans h3 fun k hk hl => by
                  have hk : k = g := hk
                  have := HG.out g R10.out.has.1
                  omega)
                clear h1 h2 h3 hp
                go_wp2_with (go_at_call 9; refine (works_any _).mono ?_; rintro e w' ⟨rfl, hf⟩; have Hf := Lib.hid hf; clear hf)
                go_ret
                exact ⟨rfl, F12.out.then_no Hf.out⟩
        · have hvu : u = v := by omega
          subst hvu
          have ht1 : ((ticks.length : Int) == 0) = false := beq_eq_false_iff_ne.2 (by omega)
          go_wp2_with fail
          refine (step_any _ _ _ _ _ 4 u HF.out HP.out.q (by omega) (by omega)).mono ?_
          intro e w4 hp
          obtain ⟨A5, c5, rfl, h1, h2, h3⟩ := hp.known HP.out.gv.symm Hm.out.symm
          have O5 := Lib.hid h1
          have RB := Lib.hid h2
          have RA := Lib.hid (HP.out.r.far h3 (fun k hk he => HD.out g' HP.out.q.has.1 (by have he : k = g' := he; rw [← he]; exact hk)))
          have O4 := Lib.hid (show w4.ownsRow 0 42 3 (.slice A1 m c1) m (got.flatMap encO) by
            have := own_fr HP.out.own h3 (fun k hk he => (HP.out.dis k hk).1.2 (by have he : k = g' := he; rw [he]; exact HP.out.q.has.1))
            rwa [← Hm.out] at this)
          have F4 := Lib.hid (HP.out.fr.trans h3 fun k hk hl => by
            have hk : k = g' := hk
            have := HG'.out g' HP.out.q.has.1
            omega)
          have HDi := Lib.hid (show ∀ k, Of (.slice A1 m c1) k → ¬ G k ∧ W.heap.size ≤ k from fun k hk => ⟨(HP.out.dis k hk).1.1, (HP.out.dis k hk).2⟩)
          have HGv := Lib.hid HP.out.gv
          clear h1 h2 h3 hp HP
          have hwf : ∀ x ∈ got, wfO x := by rw [HGv.out]; exact due_wf HW.out
          have hs := same_any (.slice A1 m c1) (.slice A5 m c5) got got w4 _ _ (own_ops (by rw [← Hm.out]; exact O4.out) hwf) (own_ops (by rw [← Hm.out]; exact O5.out) hwf)
          rw [decide_eq_true rfl] at hs
          have Hs := Lib.hid hs
          have hda := fun n => rdone_any (w4.drewN n) G g l 5 u (RA.out.fr ((Fr.refl No _).drewN n))
          have hdb := fun n => rdone_any (w4.drewN n) G' g' l 5 u (RB.out.fr ((Fr.refl No _).drewN n))
          rw [← HN.out] at hda hdb
          have hea := fun n => rwends_any (w4.drewN n) G g l 5 u (RA.out.fr ((Fr.refl No _).drewN n))
          have heb := fun n => rwends_any (w4.drewN n) G' g' l 5 u (RB.out.fr ((Fr.refl No _).drewN n))
          rw [← HN.out] at hea heb
          have Hea := Lib.hid hea
          have Heb := Lib.hid heb
          clear hs hwf hea heb
          obtain ⟨x, hx⟩ : ∃ x, x = max u ends := ⟨_, rfl⟩
          have hx2 : ends ≤ x ∧ u ≤ x ∧ x ≤ 1099511627776 := by omega
          have HX := Lib.hid hx
          clear hx
          have hcase : (decide (ends ≤ u) = false ∧ u < ends) ∨ (decide (ends ≤ u) = true ∧ u = ends) ∨ (decide (ends ≤ u) = true ∧ ends < u ∧ ends ≤ u) := by
            rcases Int.lt_trichotomy u ends with h | h | h
            · exact .inl ⟨decide_eq_false (by omega), h⟩
            · exact .inr (.inl ⟨decide_eq_true (by omega), h⟩)
            · exact .inr (.inr ⟨decide_eq_true (by omega), h, by omega⟩)
          rcases hcase with ⟨hdd, hue⟩ | ⟨hdd, hue⟩ | ⟨hdd, hue, hue2⟩
          all_goals try (exfalso; omega)
          all_goals
            rw [hdd] at hda hdb
            have Hda := Lib.hid hda
            have Hdb := Lib.hid hdb
            clear hda hdb hdd
            go_wp2_with fail
            refine Hs.out.mono ?_
            rintro e w5 ⟨rfl, n5, rfl⟩
            go_wp2_with fail
            refine (Hda.out n5).mono ?_
            rintro e w6 ⟨rfl, rfl⟩
            go_wp2_with fail
            refine (Hdb.out n5).mono ?_
            rintro e w6 ⟨rfl, rfl⟩
            go_wp2_with fail
            refine (Hdb.out n5).mono ?_
            rintro e w6 ⟨rfl, rfl⟩
            go_wp2_with fail
            refine (Heb.out n5).mono ?_
            rintro e w6 ⟨rfl, rfl⟩
            go_wp2_with fail
            refine (Hea.out n5).mono ?_
            rintro e w6 ⟨rfl, rfl⟩
            go_wp2_with fail
            first
              | with_reducible refine (step_any _ _ _ _ _ u ends HF.out (RA.out.fr ((Fr.refl No _).drewN n5)) (by omega) (by omega)).mono ?_
              | with_reducible refine (step_any _ _ _ _ _ u u HF.out (RA.out.fr ((Fr.refl No _).drewN n5)) (by omega) (by omega)).mono ?_
            intro e w7 hp
            have hp : StepIs (w4.drewN n5) G g l 5 u x e w7 := by
              first
                | (have hx : x = ends := by
                     have := HX.out
                     omega
                   rw [hx]; exact hp)
                | (have hx : x = u := by
                     have := HX.out
                     omega
                   rw [hx]; exact hp)
            obtain ⟨L, hL⟩ : ∃ L, L = dueT u x (timesR 5 l) := ⟨_, rfl⟩
            obtain ⟨n, hn⟩ : ∃ n, n = L.length := ⟨_, rfl⟩
            have hn40 : n ≤ 40 := by rw [hn, hL]; exact Nat.le_trans due_len (by omega)
            obtain ⟨A7, c7, rfl, h1, h2, h3⟩ := hp.known hL.symm hn.symm
            have hgl : got ++ L = acts l := by
              rw [HGv.out, hL, due_cat (times_up HF.out.ck).1 (by omega) (by omega), due_all HF.out.ck (by omega) (by rw [← HN.out]; omega)]
            have HGL := Lib.hid hgl
            have hln : (acts l).length = m + n := by rw [← hgl, List.length_append, ← Hm.out, ← hn]
            have HLN := Lib.hid hln
            have R7 := Lib.hid h2
            have O7 := Lib.hid h1
            have Hn := Lib.hid hn
            have O6 := Lib.hid (own_fr (own_fr O4.out ((Fr.refl No _).drewN n5) (fun _ _ h => h)) h3 (fun k hk he => (HDi.out k hk).1 (by have he : k = g := he; rw [he]; exact RA.out.has.1)))
            have F7 := Lib.hid ((F4.out.drewN n5).trans h3 fun k hk hl => by
              have hk : k = g := hk
              have := HG.out g RA.out.has.1
              omega)
            clear h1 h2 h3 hp hL hn hgl hln
            go_wp2_with (at_builtin; go_loud (refine wp_app (news := L.flatMap encO) rfl (.tmp 90) (.tmp 96) 22 rfl 42 (.agg #[.int .i64 0, .string ByteArray.empty, .int .i64 0]) 3 32 Try.underlying22 infoO rfl (by decide) (.slice A1 m c1) m (got.flatMap encO) rfl O6.out rfl (by rw [encO_len, ← Hn.out]) (own_news O7.out) (encO_one L) (by omega) (by unfold maxLen; omega) ?_; intro v' w8 h8 h9 h10; rw [← List.flatMap_append, HGL.out] at h8; obtain ⟨A8, c8, hu⟩ := own_form h8; subst hu; have O8 := Lib.hid h8; have R8 := Lib.hid (R7.out.far h9 (fun k hk he => (HDi.out k he).1 hk)); have F8 := Lib.hid (F7.out.trans h9 fun k hk hl => by have := (HDi.out k hk).2; omega); clear h8 h9 h10))
            go_loopw [12, 13] (fun o iv wr => ∃ (k j : Nat), iv = .int .i64 k ∧ k ≤ l.length ∧ j ≤ k ∧ Hid (j = (acts (l.take k)).length) ∧ Hid (wr.ownsRow 0 42 3 o j ((acts (l.take k)).flatMap encO) ∧ Step No w8 (Of o) wr)) (fun _ i _ => l.length - (intOf i).toNat)
            case atStart => exact ⟨0, 0, rfl, by omega, by omega, rfl, World.ownsRow_nil _ _ _ _, Fr.refl _ _, fun k hk => by cases hk⟩
            case round =>
              obtain ⟨k, j, rfl, hk, hj, Hj, Hd⟩ := hrel
              obtain ⟨d1, d2⟩ := Hd.out
              obtain ⟨A9, c9, hu⟩ := own_form d1
              subst hu
              by_cases hlt : k < l.length
              · obtain ⟨ad, rfl, hSa, q1, q2, q3, _⟩ := HEl.out k hlt
                obtain ⟨y, hy⟩ : ∃ y, y = l[k] := ⟨_, rfl⟩
                rw [← hy] at q1 q2 q3
                have hat := acts_take hlt
                rw [← hy] at hat
                have ff := F8.out.then_no d2.1
                have k1 : wr.cell? (ad.add (k * 3)) = some (.int .i64 y.1) := (ff.cell (by rw [block_add]; exact hSa) (fun h => h)).trans q1
                have k2 : wr.cell? ⟨(ad.add (k * 3)).block, (ad.add (k * 3)).off + 1, none⟩ = some (.string ⟨y.2.1.toArray⟩) := (ff.cell (by show (ad.add (k * 3)).block < _; rw [block_add]; exact hSa) (fun h => h)).trans q2
                have k3 : wr.cell? ⟨(ad.add (k * 3)).block, (ad.add (k * 3)).off + 2, none⟩ = some (.int .i64 y.2.2) := (ff.cell (by show (ad.add (k * 3)).block < _; rw [block_add]; exact hSa) (fun h => h)).trans q3
                have hbk : (ad.add (k * 3)).block < wr.heap.size := by rw [block_add]; exact Nat.lt_of_lt_of_le hSa ff.size
                have hbn : (ad.add (k * 3)).block ≠ wr.heap.size := by omega
                have D1 := Lib.hid d1
                have D2 := Lib.hid d2
                clear q1 q2 q3 hy d1 d2 Hd ff
                cases e1 : y.1 != 2
                · rw [e1, if_neg (by decide)] at hat
                  have HA := Lib.hid hat
                  clear hat
                  go_wp2
                  go_roundw
                  case rel => exact ⟨k + 1, j, by go_num, by omega, by omega, by show j = _; rw [HA.out]; exact Hj.out, by rw [HA.out]; exact ⟨D1.out, D2.out⟩⟩
                  case measure => simp [intOf]; omega
                · rw [e1, if_pos rfl] at hat
                  have HA := Lib.hid hat
                  clear hat
                  go_wp2_with (at_builtin; go_loud (refine wp_push rfl (.tmp 110) (.tmp 115) 22 rfl 42 (.agg #[.int .i64 0, .string ByteArray.empty, .int .i64 0]) 3 32 Try.underlying22 infoO rfl (by decide) _ _ _ rfl D1.out #[.int .i64 y.1, .string ⟨y.2.1.toArray⟩, .int .i64 y.2.2] rfl rfl (by intro u hu; simp at hu; rcases hu with rfl | rfl | rfl <;> rfl) (by omega) (by unfold maxLen; omega) ?_; intro g2 cap2 w2 h1 h2 h3; have P2 := Lib.hid h1; have F2 := Lib.hid (D2.out.trans (Step.of (n := j + 1) (c := cap2) h2 h3)); clear h1 h2 h3))
                  go_roundw
                  case rel =>
                    refine ⟨k + 1, j + 1, by go_num, by omega, by omega, by show j + 1 = _; rw [HA.out, List.length_append, ← Hj.out]; rfl, ?_, F2.out⟩
                    rw [HA.out, List.flatMap_append]
                    exact P2.out
                  case measure => simp [intOf]; omega
              · have hkl : k = l.length := by omega
                have hj2 : j = m + n := by rw [Hj.out, hkl, List.take_length]; exact HLN.out
                subst hj2
                rw [hkl, List.take_length] at d1
                have D1 := Lib.hid d1
                have D2 := Lib.hid d2
                have O9 := Lib.hid (own_fr O8.out d2.1 (fun _ _ h => h))
                have R9 := Lib.hid (R8.out.fr d2.1)
                have F9 := Lib.hid (F8.out.then_no d2.1)
                clear d1 d2 Hd Hj
                have hwf2 : ∀ x ∈ acts l, wfO x := fun x hx => HW.out x (List.mem_filter.1 hx).1
                have hs2 := same_any (.slice A8 (m + n) c8) (.slice A9 (m + n) c9) (acts l) (acts l) wr _ _ (own_ops (by rw [HLN.out]; exact O9.out) hwf2) (own_ops (by rw [HLN.out]; exact D1.out) hwf2)
                rw [decide_eq_true rfl] at hs2
                have Hs2 := Lib.hid hs2
                clear hs2 hwf2
                go_wp2_with fail
                refine Hs2.out.mono ?_
                rintro e w10 ⟨rfl, n10, rfl⟩
                have R10 := Lib.hid (R9.out.fr ((Fr.refl No _).drewN n10))
                have hd10 := rdone_any _ _ _ _ _ _ R10.out
                rw [← HN.out, decide_eq_true (by omega)] at hd10
                have Hd10 := Lib.hid hd10
                clear hd10
                go_wp2_with fail
                refine Hd10.out.mono ?_
                rintro e w11 ⟨rfl, rfl⟩
                go_wp2_with fail
                refine (step_any _ _ _ _ _ x 1099511627776 HF.out R10.out (by omega) (by omega)).mono ?_
                intro e w12 hp
                have hdo : dueT x 1099511627776 (timesR 5 l) = [] := due_over HF.out.ck (by rw [← HN.out]; omega)
                obtain ⟨A12, c12, rfl, h1, h2, h3⟩ := hp.known (L := []) (n := 0) hdo rfl
                have F12 := Lib.hid ((F9.out.drewN n10).trans h3 fun k hk hl => by
                  have hk : k = g := hk
                  have := HG.out g R10.out.has.1
                  omega)
                clear h1 h2 h3 hp
                go_wp2_with (go_at_call 9; refine (works_any _).mono ?_; rintro e w' ⟨rfl, hf⟩; have Hf := Lib.hid hf; clear hf)
                go_ret
                exact ⟨rfl, F12.out.then_no Hf.out⟩
  · have HC := Lib.hid hc
    obtain ⟨c, hcc⟩ : ∃ c, c = chk 5 l := ⟨_, rfl⟩
    have HCC := Lib.hid hcc
    have hc0 : (c != 0) = true := by rw [hcc]; simpa using hc
    clear hc hcc
    go_enter Try.func4, Try.ntmps4
    go_wp2_with (first
      | (go_at_call 11; refine (rcheck_any _ l 5 _ _ (fun k hk => hk) H0.out (by omega)).mono ?_; rintro e w1 ⟨rfl, hf⟩; rw [← HCC.out]; have F1 := Lib.hid hf; clear hf)
      | (go_at_call 9; refine (works_any _).mono ?_; rintro e w' ⟨rfl, hf⟩; have Hf := Lib.hid hf; clear hf))
    go_ret
    exact ⟨rfl, F1.out.then_no Hf.out⟩
end Run
end Go.Proofs.Ytagkhljcknnhmaa
