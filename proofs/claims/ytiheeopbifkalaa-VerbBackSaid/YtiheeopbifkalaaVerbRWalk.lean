/- The reference of package verb: Parse, walked. -/
import Derived.Test.YtiheeopbifkalaaVerbPlain
namespace Go.Proofs.Ytiheeopbifkalaa
open Go.RowKit
set_option linter.unusedVariables false
set_option linter.unusedSimpArgs false
namespace Verb
theorem words_at (k : Nat) (h : k < 17) : (wordsL.map Word.encS).toArray[k]? = some (.string ⟨(wordsL.getD k []).toArray⟩) := by
  have h' : k < wordsL.length := h
  simp [List.getD, h', Word.encS]
set_option maxRecDepth 100000 in
set_option maxHeartbeats 4000000 in
theorem rparse_any (s : Str) (w : World) (hs : s.length ≤ 400000) : Calls Try.prog 29 #[.string ⟨s.toArray⟩] w fun e w' => ParseIs (parseR s) e ∧ Fr No w w' := by
  obtain ⟨L, hL⟩ : ∃ L, L = Word.cutR s := ⟨_, rfl⟩
  have HL := Lib.hid hL
  have hml : ∀ x ∈ L, x.length ≤ maxLen := fun x hx => by rw [hL] at hx; exact Nat.le_trans (Word.cutR_mem hx) (by unfold maxLen; omega)
  have Hml := Lib.hid hml
  have htl : Word.tot L ≤ 900000 := by
    have := Word.cutG_len s []
    rw [hL]
    simp at this
    unfold Word.tot Word.cutR
    omega
  have HR0 := Lib.hid (show parseR s = rparseW L by unfold parseR; rw [← rparse_eq, hL])
  clear hL hml
  have hc := fun w => Word.rcut_any s w (by omega)
  rw [← HL.out] at hc
  go_enter Try.func29, Try.ntmps29
  go_wp2_with fail
  refine (hc _).mono ?_
  rintro e w1 ⟨v, rfl, ho, hst⟩
  have hf1 : Fr No (w.alloc (.cells #[.int .i64 0, .string ⟨#[]⟩, .string ⟨#[]⟩] 61)) w1 := hst.1
  have B1 := Lib.hid ((Blk.new w 61 #[.int .i64 0, .string ⟨#[]⟩, .string ⟨#[]⟩]).fr hf1 (fun h => h))
  have F1 := Lib.hid (((Fr.refl No w).alloc _).then_no hf1)
  obtain ⟨A, c, hu⟩ := own_form ho
  subst hu
  clear hc hst hf1
  cases L with
  | nil =>
    have HR := Lib.hid (show parseR s = (zeroC, 7) by rw [HR0.out]; rfl)
    have RB := B1
    have F := F1
    clear ho
    have d0 := RB.out.cell 0
    have d1 := RB.out.cell 1
    have d2 := RB.out.cell 2
    have f0 := RB.out.frozen 0
    have f1 := RB.out.frozen 1
    have f2 := RB.out.frozen 2
    simp at d0 d1 d2
    go_wp2
    have b4 := ((RB.out.put 0 (.int .i64 0)).put 1 (.string ⟨#[]⟩)).put 2 (.string ⟨#[]⟩)
    simp at b4
    have e0 := b4.cell 0
    have e1 := b4.cell 1
    have e2 := b4.cell 2
    simp only [List.getElem?_toArray, List.getElem?_cons_zero, List.getElem?_cons_succ] at e0 e1 e2
    refine bodyPost_ret (v := .tuple #[.agg #[.int .i64 0, .string ⟨#[]⟩, .string ⟨#[]⟩], .int .i64 7]) ?_ rfl ⟨by rw [HR.out]; rfl, ?_⟩
    · clear d0 d1 d2 f0 f1 f2 b4
      simp [results, Try.f29, go_sem, e0, e1, e2]
    · exact ((F.out.setCell (p := ⟨w.heap.size, 0, none⟩) (.inr (Nat.le_refl _)) _).setCell (p := ⟨w.heap.size, 1, none⟩) (.inr (Nat.le_refl _)) _).setCell (p := ⟨w.heap.size, 2, none⟩) (.inr (Nat.le_refl _)) _
  | cons a l =>
    obtain ⟨q, rfl⟩ : ∃ q, A = some ⟨q, 0, none⟩ := by
      rcases ho.2 with ⟨_, h0⟩ | ⟨g, cap', cur, h0, _⟩
      · cases h0
      · injection h0 with h0 _; exact ⟨g, h0⟩
    have hq := (ho.lt q rfl).2
    have hca := ho.cellAt 0 (by simp)
    simp [Word.encS] at hca
    have HO := Lib.hid (Word.own_strs ho Hml.out)
    obtain ⟨n, hn⟩ : ∃ n, n = (a :: l).length := ⟨_, rfl⟩
    have hn' : n = l.length + 1 := hn
    have hnc : n ≤ c ∧ c ≤ 2 ^ 63 - 1 := by
      obtain ⟨A', cap, h1, h2, h3, _⟩ := HO.out
      injection h1 with h1 _
      injection h1 with h1 h6 h7
      unfold maxLen at h3
      omega
    rw [← hn] at HO
    simp only [← hn]
    have HN := Lib.hid hn'
    have hn0 : ((n : Int) == 0) = false := beq_eq_false_iff_ne.2 (by omega)
    have hn1 : 1 ≤ n := by omega
    clear ho hn hn'
    go_wp2_with fail
    refine (words_any _).mono ?_
    rintro e w2 ⟨rfl, hw2⟩
    have BW := Blk.new w1 9 (wordsL.map Word.encS).toArray
    rw [← hw2] at BW
    have BW := Lib.hid BW
    have f12 : Fr No w1 w2 := by rw [hw2]; exact (Fr.refl No w1).alloc _
    have RB := Lib.hid (B1.out.fr f12 (fun h => h))
    have F := Lib.hid (F1.out.then_no f12)
    have HO2 := Lib.hid (strs_go HO.out (Kept.of_no f12 fun k hk => by have hk : some q = some k := hk; injection hk with hk; omega) fun k hk => hk)
    have hca2 : w2.cell? ⟨q, 0, none⟩ = some (.string ⟨a.toArray⟩) := (f12.cell (p := ⟨q, 0, none⟩) hq (fun h => h)).trans hca
    have HQ := Lib.hid (Nat.lt_of_lt_of_le hq f12.size)
    clear hw2 f12 B1 F1 HO hca hq
    go_wp2_with fail
    go_loopw [6, 7] (fun vv iv wr => ∃ (k x : Nat), iv = .int .i64 k ∧ vv = .int .i64 x ∧ 1 ≤ k ∧ k ≤ 17 ∧ x ≤ 16 ∧ Hid (x = lookK a k) ∧ Hid (∃ m, wr = w2.drewN m)) (fun _ i _ => 17 - (intOf i).toNat)
    case atStart => exact ⟨1, 0, rfl, rfl, by omega, by omega, by omega, rfl, 0, rfl⟩
    case round =>
      obtain ⟨k, x, rfl, rfl, hk1, hk, hx, Hx, hw⟩ := hrel
      obtain ⟨m, hm⟩ := hw.out
      subst hm
      by_cases hlt : k < 17
      · have hwk := (BW.out.cell k).trans (words_at k hlt)
        obtain ⟨t, ht⟩ : ∃ t, t = wordsL.getD k [] := ⟨_, rfl⟩
        rw [← ht] at hwk
        have hlk : lookK a (k + 1) = if 1 ≤ k ∧ wordsL.getD k [] = a then k else lookK a k := rfl
        rw [← ht] at hlk
        cases e : t == a
        · have e' : ¬ t = a := by simpa using e
          have Hlk := Lib.hid (show lookK a (k + 1) = lookK a k by rw [hlk, if_neg (fun h => e' h.2)])
          clear hlk ht e'
          go_wp2
          go_quiet (fail)
          go_wp2
          go_roundw
          case rel => exact ⟨k + 1, x, by go_num, rfl, by omega, by omega, by omega, (show x = _ by rw [Hlk.out]; exact Hx.out), _, rfl⟩
          case measure => simp [intOf]; omega
        · have e' : t = a := by simpa using e
          have Hlk := Lib.hid (show lookK a (k + 1) = k by rw [hlk, if_pos ⟨hk1, e'⟩])
          clear hlk ht e'
          go_wp2
          go_quiet (fail)
          go_wp2
          go_roundw
          case rel => exact ⟨k + 1, k, by go_num, rfl, by omega, by omega, by omega, (show k = _ by rw [Hlk.out]), _, rfl⟩
          case measure => simp [intOf]; omega
      · have hk17 : k = 17 := by omega
        have HX := Lib.hid (show x = lookK a 17 by rw [Hx.out, hk17])
        have HRW := Lib.hid (show parseR s = rparseW (a :: l) from HR0.out)
        clear hk17 Hx
        by_cases hx0 : x = 0
        · have HR := Lib.hid (show parseR s = (zeroC, 3) by rw [HRW.out]; show (if lookK a 17 = 0 then _ else _) = _; rw [if_pos (by rw [← HX.out]; exact hx0)])
          have RB := Lib.hid (show Blk (w2.drewN m) w.heap.size 61 #[.int .i64 0, .string ⟨#[]⟩, .string ⟨#[]⟩] from RB.out)
          have F := Lib.hid (F.out.drewN m)
          have e0 : ((x : Int) == 0) = true := by rw [hx0]; rfl
          clear hx0
          have d0 := RB.out.cell 0
          have d1 := RB.out.cell 1
          have d2 := RB.out.cell 2
          have f0 := RB.out.frozen 0
          have f1 := RB.out.frozen 1
          have f2 := RB.out.frozen 2
          simp at d0 d1 d2
          go_wp2
          have b4 := ((RB.out.put 0 (.int .i64 0)).put 1 (.string ⟨#[]⟩)).put 2 (.string ⟨#[]⟩)
          simp at b4
          have e0 := b4.cell 0
          have e1 := b4.cell 1
          have e2 := b4.cell 2
          simp only [List.getElem?_toArray, List.getElem?_cons_zero, List.getElem?_cons_succ] at e0 e1 e2
          refine bodyPost_ret (v := .tuple #[.agg #[.int .i64 0, .string ⟨#[]⟩, .string ⟨#[]⟩], .int .i64 3]) ?_ rfl ⟨by rw [HR.out]; rfl, ?_⟩
          · clear d0 d1 d2 f0 f1 f2 b4
            simp [results, Try.f29, go_sem, e0, e1, e2]
          · exact ((F.out.setCell (p := ⟨w.heap.size, 0, none⟩) (.inr (Nat.le_refl _)) _).setCell (p := ⟨w.heap.size, 1, none⟩) (.inr (Nat.le_refl _)) _).setCell (p := ⟨w.heap.size, 2, none⟩) (.inr (Nat.le_refl _)) _
        · have e0 : ((x : Int) == 0) = false := beq_eq_false_iff_ne.2 (by omega)
          have htk := fun w => takes_any x w
          obtain ⟨tk, htk2⟩ : ∃ tk, tk = takesR x := ⟨_, rfl⟩
          rw [← htk2] at htk
          have HT := Lib.hid htk2
          have Htk := Lib.hid htk
          have hx0' := hx0
          clear hx0 htk htk2
          have hz : takesR x = 0 ∨ takesR x = 1 ∨ takesR x = 2 ∨ takesR x = 3 := by unfold takesR; split <;> (try split) <;> (try split) <;> simp
          rw [← HT.out] at hz
          have HZ := Lib.hid hz
          clear hz
          have hl0 : n = l.length + 1 := HN.out
          have HE := Lib.hid (fun (h : (tk = 3 ∧ l.length < 2) ∨ (tk < 3 ∧ (l.length : Int) ≠ tk)) => show parseR s = (zeroC, 1) by
            rw [HRW.out]
            show (if lookK a 17 = 0 then _ else if (takesR (lookK a 17) = 3 ∧ l.length < 2) ∨ (takesR (lookK a 17) < 3 ∧ (l.length : Int) ≠ takesR (lookK a 17)) then _ else _) = _
            rw [← HX.out, ← HT.out, if_neg hx0', if_pos h])
          have HG := Lib.hid (fun (h : ¬ ((tk = 3 ∧ l.length < 2) ∨ (tk < 3 ∧ (l.length : Int) ≠ tk))) => show parseR s = ((((x : Nat) : Int), l.getD 0 [], Word.joinR (l.drop 1)), (0 : Int)) by
            rw [HRW.out]
            show (if lookK a 17 = 0 then _ else if (takesR (lookK a 17) = 3 ∧ l.length < 2) ∨ (takesR (lookK a 17) < 3 ∧ (l.length : Int) ≠ takesR (lookK a 17)) then _ else ((((lookK a 17 : Nat) : Int), l.getD 0 [], Word.joinR (l.drop 1)), (0 : Int))) = _
            rw [← HX.out, ← HT.out, if_neg hx0', if_neg h])
          have RB := Lib.hid (show Blk (w2.drewN m) w.heap.size 61 #[.int .i64 0, .string ⟨#[]⟩, .string ⟨#[]⟩] from RB.out)
          have F := Lib.hid (F.out.drewN m)
          have HO3 := Lib.hid (strs_go HO2.out (Kept.of_no ((Fr.refl No w2).drewN m) fun k hk => by have hk : some q = some k := hk; injection hk with hk; rw [← hk]; exact HQ.out) fun k hk => hk)
          have HQ3 := Lib.hid (show q < (w2.drewN m).heap.size from HQ.out)
          clear HO2 HQ hca2 hw BW hx0'
          generalize w2.drewN m = W3 at RB F HO3 HQ3 ⊢
          have d0 := RB.out.cell 0
          have d1 := RB.out.cell 1
          have d2 := RB.out.cell 2
          have f0 := RB.out.frozen 0
          have f1 := RB.out.frozen 1
          have f2 := RB.out.frozen 2
          simp at d0 d1 d2
          have hdW := RB.out.lt
          have hneW : w.heap.size ≠ W3.heap.size := by omega
          have hcs : ((tk = 3 ∧ n < 3) ∨ (tk < 3 ∧ ((n : Int) - 1 != tk) = true)) ∨ ((tk = 3 ∧ 3 ≤ n) ∨ (tk < 3 ∧ ((n : Int) - 1 != tk) = false)) := by
            have hz := HZ.out
            by_cases h3 : tk = 3
            · by_cases h : n < 3
              · exact .inl (.inl ⟨h3, h⟩)
              · exact .inr (.inl ⟨h3, by omega⟩)
            · by_cases h : (n : Int) - 1 = tk
              · exact .inr (.inr ⟨by omega, by simp [h]⟩)
              · exact .inl (.inr ⟨by omega, by simp [h]⟩)
          rcases hcs with hcs | hcs
          · have HR := Lib.hid (HE.out (by
              rcases hcs with ⟨h1, h2⟩ | ⟨h1, h2⟩
              · exact .inl ⟨h1, by omega⟩
              · exact .inr ⟨h1, by have := bne_iff_ne.1 h2; omega⟩))
            clear hl0 HE HG
            rcases hcs with ⟨rfl, h1⟩ | ⟨h0, h1⟩
            all_goals
              go_wp2_with (go_at_call 62; refine (Htk.out _).mono ?_; rintro e w3 ⟨rfl, rfl⟩)
              have b4 := ((RB.out.put 0 (.int .i64 0)).put 1 (.string ⟨#[]⟩)).put 2 (.string ⟨#[]⟩)
              simp at b4
              have e0 := b4.cell 0
              have e1 := b4.cell 1
              have e2 := b4.cell 2
              simp only [List.getElem?_toArray, List.getElem?_cons_zero, List.getElem?_cons_succ] at e0 e1 e2
              refine bodyPost_ret (v := .tuple #[.agg #[.int .i64 0, .string ⟨#[]⟩, .string ⟨#[]⟩], .int .i64 1]) ?_ rfl ⟨by rw [HR.out]; rfl, ?_⟩
              · clear d0 d1 d2 f0 f1 f2 b4
                simp [results, Try.f29, go_sem, e0, e1, e2]
              · exact ((F.out.setCell (p := ⟨w.heap.size, 0, none⟩) (.inr (Nat.le_refl _)) _).setCell (p := ⟨w.heap.size, 1, none⟩) (.inr (Nat.le_refl _)) _).setCell (p := ⟨w.heap.size, 2, none⟩) (.inr (Nat.le_refl _)) _
          · have HR0' := HG.out (by rintro (⟨h1, h2⟩ | ⟨h1, h2⟩) <;> rcases hcs with ⟨h3, h4⟩ | ⟨h3, h4⟩ <;> first | omega | (have := bne_eq_false_iff_eq.1 h4; omega))
            by_cases hn1' : n = 1
            · have hl1 : l = [] := List.eq_nil_of_length_eq_zero (by omega)
              have HR := Lib.hid (show parseR s = ((((x : Nat) : Int), [], []), (0 : Int)) by rw [HR0', hl1]; rfl)
              clear hl0 HE HG HR0' hl1
              subst hn1'
              rcases hcs with ⟨rfl, h1⟩ | ⟨h0, h1⟩
              · omega
              · go_wp2_with (go_at_call 62; refine (Htk.out _).mono ?_; rintro e w3 ⟨rfl, rfl⟩)
                have b4 := ((RB.out.put 0 (.int .i64 x)).put 1 (.string ⟨#[]⟩)).put 2 (.string ⟨#[]⟩)
                have b4 := b4.alloc (.cells #[.int .i64 x, .string ⟨#[]⟩, .string ⟨#[]⟩] 61)
                simp at b4
                have e0 := b4.cell 0
                have e1 := b4.cell 1
                have e2 := b4.cell 2
                simp only [List.getElem?_toArray, List.getElem?_cons_zero, List.getElem?_cons_succ] at e0 e1 e2
                refine bodyPost_ret (v := .tuple #[.agg #[.int .i64 x, .string ⟨#[]⟩, .string ⟨#[]⟩], .int .i64 0]) ?_ rfl ⟨by rw [HR.out]; rfl, ?_⟩
                · clear d0 d1 d2 f0 f1 f2 b4
                  simp [results, Try.f29, go_sem, e0, e1, e2]
                · exact (((F.out.setCell (p := ⟨w.heap.size, 0, none⟩) (.inr (Nat.le_refl _)) _).setCell (p := ⟨w.heap.size, 1, none⟩) (.inr (Nat.le_refl _)) _).setCell (p := ⟨w.heap.size, 2, none⟩) (.inr (Nat.le_refl _)) _).alloc _
            · obtain ⟨b, l', rfl⟩ : ∃ b l', l = b :: l' := by
                cases l with
                | nil => simp at hl0; omega
                | cons b l' => exact ⟨b, l', rfl⟩
              have HR := Lib.hid (show parseR s = ((((x : Nat) : Int), b, Word.joinR l'), (0 : Int)) by rw [HR0']; rfl)
              have hn2 : 2 ≤ n := by simp at hl0; omega
              have HLL := Lib.hid (show n = l'.length + 2 by simp at hl0; omega)
              obtain ⟨ad, had, _, hcb, _⟩ : ∃ ad, some (⟨q, 0, none⟩ : Addr) = some ad ∧ True ∧ W3.cell? (ad.add 1) = some (.string ⟨b.toArray⟩) ∧ True := by
                obtain ⟨A', cap, h1, _, _, h4⟩ := HO3.out.strs
                injection h1 with h1 _ _
                obtain ⟨ad, g1, _, g3, _⟩ := h4 1 (by simp)
                exact ⟨ad, by rw [← g1, h1], trivial, g3, trivial⟩
              injection had with had
              subst had
              have hcb : W3.cell? ⟨q, 1, none⟩ = some (.string ⟨b.toArray⟩) := hcb
              have hqne : q ≠ W3.heap.size := by have := HQ3.out; omega
              have hcb2 : ∀ o, (W3.alloc o).cell? ⟨q, 1, none⟩ = some (.string ⟨b.toArray⟩) := fun o => (((Fr.refl No W3).alloc o).cell (p := ⟨q, 1, none⟩) HQ3.out (fun h => h)).trans hcb
              obtain ⟨t2, ht2⟩ : ∃ t2, t2 = Word.joinR l' := ⟨_, rfl⟩
              rw [← ht2] at HR
              have HT2' := Lib.hid ht2
              have htl' : Word.tot l' ≤ 1000000 := by
                have : Word.tot l' ≤ Word.tot (a :: b :: l') := by simp [Word.tot]; omega
                omega
              have hj1 : ¬ c = 2 → ∀ W', Fr No W3 W' → Calls Try.prog 34 #[.slice (some ⟨q, 2, none⟩) (n - 2) (c - 2)] W' fun e w' => e = .returned (.string ⟨t2.toArray⟩) ∧ ∃ k, w' = W'.drewN k := fun hc2 W' hf => by
                rw [HT2'.out]
                have hr3 := strs_go HO3.out (Kept.of_no hf fun k hk => by have hk : some q = some k := hk; injection hk with hk; rw [← hk]; exact HQ3.out) (fun k hk => hk)
                have hnl := HLL.out
                have r1 := rsl_tail (l := a :: b :: l') (by rw [List.length_cons, List.length_cons, show l'.length + 1 + 1 = n by omega]; exact hr3) (by simp)
                have r2 := rsl_tail (l := b :: l') r1 (by simp)
                have e1 : (b :: l').length - 1 = n - 2 := by simp; omega
                have e2 : c - 1 - 1 = c - 2 := by omega
                rw [e1, e2] at r2
                exact Word.rjoin_any _ l' W' _ r2 htl'
              have hj2 : c = 2 → ∀ W', Fr No W3 W' → Calls Try.prog 34 #[.slice (some ⟨q, 0, none⟩) 0 0] W' fun e w' => e = .returned (.string ⟨t2.toArray⟩) ∧ ∃ k, w' = W'.drewN k := fun hc2 W' hf => by
                have hnl := HLL.out
                have : l' = [] := List.eq_nil_of_length_eq_zero (by omega)
                rw [HT2'.out]
                rw [this] at *
                exact Word.rjoin_any _ [] W' (fun _ => True) (rsl_none (by unfold maxLen; omega)) (by simp [Word.tot])
              clear HE HG HR0' hl0 hn1' ht2
              rcases hcs with ⟨rfl, h1⟩ | ⟨h0, h1⟩
              · have HJ := Lib.hid (hj1 (by omega))
                clear hj1 hj2
                go_wp2_with (go_at_call 62; refine (Htk.out _).mono ?_; rintro e w3 ⟨rfl, rfl⟩)
                refine (HJ.out _ ((Fr.refl No W3).alloc _)).mono ?_
                rintro e w5 ⟨rfl, n5, rfl⟩
                have cb := ((Blk.new W3 61 #[.int .i64 x, .string ⟨b.toArray⟩, .string ⟨#[]⟩]).drewN n5)
                have RB5 := (RB.out.alloc (.cells #[.int .i64 x, .string ⟨b.toArray⟩, .string ⟨#[]⟩] 61)).drewN n5
                have F5 := (F.out.alloc (.cells #[.int .i64 x, .string ⟨b.toArray⟩, .string ⟨#[]⟩] 61)).drewN n5
                clear d0 d1 d2 f0 f1 f2 hcb hcb2
                generalize (W3.alloc (.cells #[.int .i64 x, .string ⟨b.toArray⟩, .string ⟨#[]⟩] 61)).drewN n5 = W5 at cb RB5 F5 ⊢
                have RB := Lib.hid RB5
                have F := Lib.hid F5
                have CB := Lib.hid cb
                have d0 := RB.out.cell 0
                have d1 := RB.out.cell 1
                have d2 := RB.out.cell 2
                have f0 := RB.out.frozen 0
                have f1 := RB.out.frozen 1
                have f2 := RB.out.frozen 2
                have c0 := cb.cell 0
                have c1 := cb.cell 1
                have c2 := cb.cell 2
                have g2 := cb.frozen 2
                simp at d0 d1 d2 c0 c1 c2
                clear RB5 F5 cb
                go_wp2
                have b4 := ((((RB.out.far (p := ⟨W3.heap.size, 2, none⟩) hneW (.string ⟨t2.toArray⟩)).put 0 (.int .i64 x)).put 1 (.string ⟨b.toArray⟩)).put 2 (.string ⟨t2.toArray⟩))
                simp at b4
                have e0 := b4.cell 0
                have e1 := b4.cell 1
                have e2 := b4.cell 2
                simp only [List.getElem?_toArray, List.getElem?_cons_zero, List.getElem?_cons_succ] at e0 e1 e2
                refine bodyPost_ret (v := .tuple #[.agg #[.int .i64 x, .string ⟨b.toArray⟩, .string ⟨t2.toArray⟩], .int .i64 0]) ?_ rfl ⟨by rw [HR.out]; rfl, ?_⟩
                · clear d0 d1 d2 f0 f1 f2 c0 c1 c2 g2 b4
                  simp [results, Try.f29, go_sem, e0, e1, e2]
                · exact ((((F.out.setCell (p := ⟨W3.heap.size, 2, none⟩) (.inr (Nat.le_of_lt hdW)) _).setCell (p := ⟨w.heap.size, 0, none⟩) (.inr (Nat.le_refl _)) _).setCell (p := ⟨w.heap.size, 1, none⟩) (.inr (Nat.le_refl _)) _).setCell (p := ⟨w.heap.size, 2, none⟩) (.inr (Nat.le_refl _)) _)
              · by_cases hc2 : c = 2
                · subst hc2
                  obtain rfl : n = 2 := by omega
                  have HJ := Lib.hid (hj2 rfl)
                  clear hj1 hj2
                  go_wp2_with (go_at_call 62; refine (Htk.out _).mono ?_; rintro e w3 ⟨rfl, rfl⟩)
                  refine (HJ.out _ ((Fr.refl No W3).alloc _)).mono ?_
                  rintro e w5 ⟨rfl, n5, rfl⟩
                  have cb := ((Blk.new W3 61 #[.int .i64 x, .string ⟨b.toArray⟩, .string ⟨#[]⟩]).drewN n5)
                  have RB5 := (RB.out.alloc (.cells #[.int .i64 x, .string ⟨b.toArray⟩, .string ⟨#[]⟩] 61)).drewN n5
                  have F5 := (F.out.alloc (.cells #[.int .i64 x, .string ⟨b.toArray⟩, .string ⟨#[]⟩] 61)).drewN n5
                  clear d0 d1 d2 f0 f1 f2 hcb hcb2
                  generalize (W3.alloc (.cells #[.int .i64 x, .string ⟨b.toArray⟩, .string ⟨#[]⟩] 61)).drewN n5 = W5 at cb RB5 F5 ⊢
                  have RB := Lib.hid RB5
                  have F := Lib.hid F5
                  have CB := Lib.hid cb
                  have d0 := RB.out.cell 0
                  have d1 := RB.out.cell 1
                  have d2 := RB.out.cell 2
                  have f0 := RB.out.frozen 0
                  have f1 := RB.out.frozen 1
                  have f2 := RB.out.frozen 2
                  have c0 := cb.cell 0
                  have c1 := cb.cell 1
                  have c2 := cb.cell 2
                  have g2 := cb.frozen 2
                  simp at d0 d1 d2 c0 c1 c2
                  clear RB5 F5 cb
                  go_wp2
                  have b4 := ((((RB.out.far (p := ⟨W3.heap.size, 2, none⟩) hneW (.string ⟨t2.toArray⟩)).put 0 (.int .i64 x)).put 1 (.string ⟨b.toArray⟩)).put 2 (.string ⟨t2.toArray⟩))
                  simp at b4
                  have e0 := b4.cell 0
                  have e1 := b4.cell 1
                  have e2 := b4.cell 2
                  simp only [List.getElem?_toArray, List.getElem?_cons_zero, List.getElem?_cons_succ] at e0 e1 e2
                  refine bodyPost_ret (v := .tuple #[.agg #[.int .i64 x, .string ⟨b.toArray⟩, .string ⟨t2.toArray⟩], .int .i64 0]) ?_ rfl ⟨by rw [HR.out]; rfl, ?_⟩
                  · clear d0 d1 d2 f0 f1 f2 c0 c1 c2 g2 b4
                    simp [results, Try.f29, go_sem, e0, e1, e2]
                  · exact ((((F.out.setCell (p := ⟨W3.heap.size, 2, none⟩) (.inr (Nat.le_of_lt hdW)) _).setCell (p := ⟨w.heap.size, 0, none⟩) (.inr (Nat.le_refl _)) _).setCell (p := ⟨w.heap.size, 1, none⟩) (.inr (Nat.le_refl _)) _).setCell (p := ⟨w.heap.size, 2, none⟩) (.inr (Nat.le_refl _)) _)
                · have HJ := Lib.hid (hj1 hc2)
                  clear hj1 hj2
                  go_wp2_with (go_at_call 62; refine (Htk.out _).mono ?_; rintro e w3 ⟨rfl, rfl⟩)
                  refine (HJ.out _ ((Fr.refl No W3).alloc _)).mono ?_
                  rintro e w5 ⟨rfl, n5, rfl⟩
                  have cb := ((Blk.new W3 61 #[.int .i64 x, .string ⟨b.toArray⟩, .string ⟨#[]⟩]).drewN n5)
                  have RB5 := (RB.out.alloc (.cells #[.int .i64 x, .string ⟨b.toArray⟩, .string ⟨#[]⟩] 61)).drewN n5
                  have F5 := (F.out.alloc (.cells #[.int .i64 x, .string ⟨b.toArray⟩, .string ⟨#[]⟩] 61)).drewN n5
                  clear d0 d1 d2 f0 f1 f2 hcb hcb2
                  generalize (W3.alloc (.cells #[.int .i64 x, .string ⟨b.toArray⟩, .string ⟨#[]⟩] 61)).drewN n5 = W5 at cb RB5 F5 ⊢
                  have RB := Lib.hid RB5
                  have F := Lib.hid F5
                  have CB := Lib.hid cb
                  have d0 := RB.out.cell 0
                  have d1 := RB.out.cell 1
                  have d2 := RB.out.cell 2
                  have f0 := RB.out.frozen 0
                  have f1 := RB.out.frozen 1
                  have f2 := RB.out.frozen 2
                  have c0 := cb.cell 0
                  have c1 := cb.cell 1
                  have c2 := cb.cell 2
                  have g2 := cb.frozen 2
                  simp at d0 d1 d2 c0 c1 c2
                  clear RB5 F5 cb
                  go_wp2
                  have b4 := ((((RB.out.far (p := ⟨W3.heap.size, 2, none⟩) hneW (.string ⟨t2.toArray⟩)).put 0 (.int .i64 x)).put 1 (.string ⟨b.toArray⟩)).put 2 (.string ⟨t2.toArray⟩))
                  simp at b4
                  have e0 := b4.cell 0
                  have e1 := b4.cell 1
                  have e2 := b4.cell 2
                  simp only [List.getElem?_toArray, List.getElem?_cons_zero, List.getElem?_cons_succ] at e0 e1 e2
                  refine bodyPost_ret (v := .tuple #[.agg #[.int .i64 x, .string ⟨b.toArray⟩, .string ⟨t2.toArray⟩], .int .i64 0]) ?_ rfl ⟨by rw [HR.out]; rfl, ?_⟩
                  · clear d0 d1 d2 f0 f1 f2 c0 c1 c2 g2 b4
                    simp [results, Try.f29, go_sem, e0, e1, e2]
                  · exact ((((F.out.setCell (p := ⟨W3.heap.size, 2, none⟩) (.inr (Nat.le_of_lt hdW)) _).setCell (p := ⟨w.heap.size, 0, none⟩) (.inr (Nat.le_refl _)) _).setCell (p := ⟨w.heap.size, 1, none⟩) (.inr (Nat.le_refl _)) _).setCell (p := ⟨w.heap.size, 2, none⟩) (.inr (Nat.le_refl _)) _)
end Verb
end Go.Proofs.Ytiheeopbifkalaa
