/- Package verb: Parse. -/
import Derived.Test.YtiheeopbifkalaaVerbPlain
namespace Go.Proofs.Ytiheeopbifkalaa
open Go.RowKit
set_option linter.unusedVariables false
set_option linter.unusedSimpArgs false
namespace Verb
set_option maxRecDepth 100000 in
set_option maxHeartbeats 4000000 in
theorem parse_any (s : Str) (w : World) (hs : s.length ≤ 400000) : Calls Try.prog 28 #[.string ⟨s.toArray⟩] w fun e w' => ParseIs (parseR s) e ∧ Fr No w w' := by
  obtain ⟨L, hL⟩ : ∃ L, L = Word.cutR s := ⟨_, rfl⟩
  have HL := Lib.hid hL
  have hml : ∀ x ∈ L, x.length ≤ maxLen := fun x hx => by rw [hL] at hx; exact Nat.le_trans (Word.cutR_mem hx) (by unfold maxLen; omega)
  have Hml := Lib.hid hml
  have htl : Word.tot L ≤ 900000 := by
    have := Word.cutG_len s []
    rw [hL]
    simp at this
    unfold Word.tot Word.cutR
    omega
  clear hL hml
  have hc := fun w => Word.cut_any s w (by omega)
  rw [← HL.out] at hc
  go_enter Try.func28, Try.ntmps28
  go_wp2_with fail
  refine (hc _).mono ?_
  rintro e w1 ⟨v, rfl, ho, hst⟩
  have hf1 : Fr No (w.alloc (.cells #[.int .i64 0, .string ⟨#[]⟩, .string ⟨#[]⟩] 61)) w1 := hst.1
  have B1 := Lib.hid ((Blk.new w 61 #[.int .i64 0, .string ⟨#[]⟩, .string ⟨#[]⟩]).fr hf1 (fun h => h))
  have F1 := Lib.hid (((Fr.refl No w).alloc _).then_no hf1)
  obtain ⟨A, c, hu⟩ := own_form ho
  subst hu
  clear hc hst hf1
  cases L with
  | nil =>
    have HR := Lib.hid (show parseR s = (zeroC, 7) by unfold parseR; rw [← HL.out]; rfl)
    have RB := Lib.hid (B1.out.alloc (.cells #[.slice A 0 c] 45))
    have F := Lib.hid (F1.out.alloc (.cells #[.slice A 0 c] 45))
    clear ho
    have d0 := RB.out.cell 0
    have d1 := RB.out.cell 1
    have d2 := RB.out.cell 2
    have f0 := RB.out.frozen 0
    have f1 := RB.out.frozen 1
    have f2 := RB.out.frozen 2
    simp at d0 d1 d2
    go_wp2
    have b4 := ((RB.out.put 0 (.int .i64 0)).put 1 (.string ⟨#[]⟩)).put 2 (.string ⟨#[]⟩)
    simp at b4
    have e0 := b4.cell 0
    have e1 := b4.cell 1
    have e2 := b4.cell 2
    simp only [List.getElem?_toArray, List.getElem?_cons_zero, List.getElem?_cons_succ] at e0 e1 e2
    refine bodyPost_ret (v := .tuple #[.agg #[.int .i64 0, .string ⟨#[]⟩, .string ⟨#[]⟩], .int .i64 7]) ?_ rfl ⟨by rw [HR.out]; rfl, ?_⟩
    · clear d0 d1 d2 f0 f1 f2 b4
      simp [results, Try.f28, go_sem, e0, e1, e2]
    · exact ((F.out.setCell (p := ⟨w.heap.size, 0, none⟩) (.inr (Nat.le_refl _)) _).setCell (p := ⟨w.heap.size, 1, none⟩) (.inr (Nat.le_refl _)) _).setCell (p := ⟨w.heap.size, 2, none⟩) (.inr (Nat.le_refl _)) _
  | cons a l =>
    obtain ⟨q, rfl⟩ : ∃ q, A = some ⟨q, 0, none⟩ := by
      rcases ho.2 with ⟨_, h0⟩ | ⟨g, cap', cur, h0, _⟩
      · cases h0
      · injection h0 with h0 _; exact ⟨g, h0⟩
    have hq := (ho.lt q rfl).2
    have hca := ho.cellAt 0 (by simp)
    simp [Word.encS] at hca
    have HO := Lib.hid (Word.own_strs ho Hml.out)
    obtain ⟨n, hn⟩ : ∃ n, n = (a :: l).length := ⟨_, rfl⟩
    have hn' : n = l.length + 1 := hn
    have hnc : n ≤ c ∧ c ≤ 2 ^ 63 - 1 := by
      obtain ⟨A', cap, h1, h2, h3, _⟩ := HO.out
      injection h1 with h1 _
      injection h1 with h1 h6 h7
      unfold maxLen at h3
      omega
    rw [← hn] at HO
    simp only [← hn]
    have HN := Lib.hid hn'
    have hn0 : ((n : Int) == 0) = false := beq_eq_false_iff_ne.2 (by omega)
    have hn1 : 1 ≤ n := by omega
    clear ho hn hn'
    have Hca := Lib.hid hca
    have W2c := Lib.hid (fun (W : World) (hf : Fr No (w1.alloc (.cells #[.slice (some ⟨q, 0, none⟩) n c] 45)) W) (x : V) => parse1_any W w1.heap.size ⟨q, 0, none⟩ n c a x (((Blk.new w1 45 #[.slice (some ⟨q, 0, none⟩) n c]).fr hf (fun h => h)).cell 0) (Nat.lt_of_lt_of_le (by rw [size_alloc]; omega) hf.size) (by have := HN.out; omega) ((hf.cell (p := ⟨q, 0, none⟩) (by rw [size_alloc]; show q < _; omega) (fun h => h)).trans (((Fr.refl No w1).alloc _).cell (p := ⟨q, 0, none⟩) hq (fun h => h) |>.trans Hca.out)) (Nat.lt_of_lt_of_le (by rw [size_alloc]; show q < _; omega) hf.size))
    clear hca
    go_wp2_with fail
    refine (find_parse _ _ (fun x => x.2.1 == a) W2c.out).mono ?_
    rintro e w3 ⟨hr, hf3⟩
    have BL := Lib.hid ((Blk.new w1 45 #[.slice (some ⟨q, 0, none⟩) n c]).fr hf3 (fun h => h))
    have RB := Lib.hid ((B1.out.alloc (.cells #[.slice (some ⟨q, 0, none⟩) n c] 45)).fr hf3 (fun h => h))
    have f13 : Fr No w1 w3 := ((Fr.refl No w1).alloc _).then_no hf3
    have F := Lib.hid (F1.out.then_no f13)
    have HO3 := Lib.hid (strs_go HO.out (Kept.of_no f13 fun k hk => by have hk : some q = some k := hk; injection hk with hk; omega) fun k hk => hk)
    have HQ := Lib.hid (Nat.lt_of_lt_of_le hq f13.size)
    have HR0 := Lib.hid (show parseR s = parseW (a :: l) by unfold parseR; rw [← HL.out])
    have HP := Lib.hid (show parseW (a :: l) = if (findR (fun x : V => x.2.1 == a)).2 = false then (zeroC, 3) else if (madeR (findR (fun x : V => x.2.1 == a)).1 l).2 = false then (zeroC, 1) else ((madeR (findR (fun x : V => x.2.1 == a)).1 l).1, 0) from rfl)
    generalize findR (fun x : V => x.2.1 == a) = r at hr HP
    obtain ⟨⟨xv, xw, xt, xh⟩, ok⟩ := r
    have hr' : e = .returned (.tuple #[.agg #[.int .i64 xv, .string ⟨xw.toArray⟩, .int .i64 xt, .string ⟨xh.toArray⟩], .bool ok]) := hr
    subst hr'
    clear hr hf3 f13 W2c B1 F1 HO Hca hq
    cases ok
    · have HR := Lib.hid (show parseR s = (zeroC, 3) by rw [HR0.out, HP.out]; rfl)
      have RB := Lib.hid (RB.out.alloc (.cells #[.int .i64 xv, .string ⟨xw.toArray⟩, .int .i64 xt, .string ⟨xh.toArray⟩] 99))
      have F := Lib.hid (F.out.alloc (.cells #[.int .i64 xv, .string ⟨xw.toArray⟩, .int .i64 xt, .string ⟨xh.toArray⟩] 99))
      have d0 := RB.out.cell 0
      have d1 := RB.out.cell 1
      have d2 := RB.out.cell 2
      have f0 := RB.out.frozen 0
      have f1 := RB.out.frozen 1
      have f2 := RB.out.frozen 2
      simp at d0 d1 d2
      go_wp2
      have b4 := ((RB.out.put 0 (.int .i64 0)).put 1 (.string ⟨#[]⟩)).put 2 (.string ⟨#[]⟩)
      simp at b4
      have e0 := b4.cell 0
      have e1 := b4.cell 1
      have e2 := b4.cell 2
      simp only [List.getElem?_toArray, List.getElem?_cons_zero, List.getElem?_cons_succ] at e0 e1 e2
      refine bodyPost_ret (v := .tuple #[.agg #[.int .i64 0, .string ⟨#[]⟩, .string ⟨#[]⟩], .int .i64 3]) ?_ rfl ⟨by rw [HR.out]; rfl, ?_⟩
      · clear d0 d1 d2 f0 f1 f2 b4
        simp [results, Try.f28, go_sem, e0, e1, e2]
      · exact ((F.out.setCell (p := ⟨w.heap.size, 0, none⟩) (.inr (Nat.le_refl _)) _).setCell (p := ⟨w.heap.size, 1, none⟩) (.inr (Nat.le_refl _)) _).setCell (p := ⟨w.heap.size, 2, none⟩) (.inr (Nat.le_refl _)) _
    · have HR1 := Lib.hid (show parseR s = if (madeR (xv, xw, xt, xh) l).2 = false then (zeroC, 1) else ((madeR (xv, xw, xt, xh) l).1, 0) by rw [HR0.out, HP.out]; rfl)
      have cl := BL.out.cell 0
      simp at cl
      have hbl := BL.out.lt
      have hne : w1.heap.size ≠ w3.heap.size := by omega
      have hm : ∀ W', Fr No w3 W' → Calls Try.prog 61 #[.agg #[.int .i64 xv, .string ⟨xw.toArray⟩, .int .i64 xt, .string ⟨xh.toArray⟩], .slice (if c = 1 then some ⟨q, 0, none⟩ else some ⟨q, 1, none⟩) (n - 1) (c - 1)] W' fun e w' => MadeIs (madeR (xv, xw, xt, xh) l) e ∧ Fr No W' w' := fun W' hf => by
        have hnl := HN.out
        have htl' : Word.tot l ≤ 1000000 := by
          have : Word.tot l ≤ Word.tot (a :: l) := by simp [Word.tot]; omega
          omega
        have hr3 := strs_go HO3.out (Kept.of_no hf fun k hk => by have hk : some q = some k := hk; injection hk with hk; rw [← hk]; exact HQ.out) (fun k hk => hk)
        have hr4 : RSl 1 RStr W' (Of (.slice (some ⟨q, 0, none⟩) n c)) [.slice (if c = 1 then some ⟨q, 0, none⟩ else some ⟨q, 1, none⟩) (n - 1) (c - 1)] l := by
          by_cases hc1 : c = 1
          · have : l = [] := List.eq_nil_of_length_eq_zero (by omega)
            subst this
            rw [show n - 1 = 0 by omega, if_pos hc1]
            exact rsl_none (by unfold maxLen; omega)
          · have := rsl_tail (l := a :: l) (by rw [List.length_cons, ← hnl]; exact hr3) (by simp)
            rw [List.length_cons, ← hnl] at this
            rw [if_neg hc1]
            exact this
        exact made_any (xv, xw, xt, xh) _ l W' _ (fun k hk => by have hk : some q = some k := hk; injection hk with hk; rw [← hk]; exact Nat.lt_of_lt_of_le HQ.out hf.size) hr4 htl'
      obtain ⟨⟨⟨cv, ca, cb⟩, ok2⟩, hmr⟩ : ∃ r, madeR (xv, xw, xt, xh) l = r := ⟨_, rfl⟩
      rw [hmr] at hm
      have HM := Lib.hid hm
      have HR2 := Lib.hid (show parseR s = if ok2 = false then (zeroC, 1) else ((cv, ca, cb), 0) by rw [HR1.out, hmr])
      clear hm hmr HR1 HR0 HP HO3
      go_wp2_with fail
      have RB4 := Lib.hid (RB.out.alloc (.cells #[.int .i64 xv, .string ⟨xw.toArray⟩, .int .i64 xt, .string ⟨xh.toArray⟩] 99))
      have F4 := Lib.hid (F.out.alloc (.cells #[.int .i64 xv, .string ⟨xw.toArray⟩, .int .i64 xt, .string ⟨xh.toArray⟩] 99))
      have F34 := Lib.hid ((Fr.refl No w3).alloc (.cells #[.int .i64 xv, .string ⟨xw.toArray⟩, .int .i64 xt, .string ⟨xh.toArray⟩] 99))
      have bx := Blk.new w3 99 #[.int .i64 xv, .string ⟨xw.toArray⟩, .int .i64 xt, .string ⟨xh.toArray⟩]
      have cl4 := (BL.out.alloc (.cells #[.int .i64 xv, .string ⟨xw.toArray⟩, .int .i64 xt, .string ⟨xh.toArray⟩] 99)).cell 0
      simp only [List.getElem?_toArray, List.getElem?_cons_zero] at cl4
      have hl4 := (BL.out.alloc (.cells #[.int .i64 xv, .string ⟨xw.toArray⟩, .int .i64 xt, .string ⟨xh.toArray⟩] 99)).lt
      clear cl hne hbl RB F BL
      generalize w3.alloc (.cells #[.int .i64 xv, .string ⟨xw.toArray⟩, .int .i64 xt, .string ⟨xh.toArray⟩] 99) = W4 at RB4 F4 F34 bx cl4 hl4 ⊢
      have x0 := bx.cell 0
      have x1 := bx.cell 1
      have x2 := bx.cell 2
      have x3 := bx.cell 3
      simp only [List.getElem?_toArray, List.getElem?_cons_zero, List.getElem?_cons_succ] at x0 x1 x2 x3
      have hlx := bx.lt
      have hne4 : w1.heap.size ≠ W4.heap.size := by omega
      have hnex : w3.heap.size ≠ W4.heap.size := by omega
      clear bx
      have hcc : c = 1 ∨ ¬ c = 1 := Decidable.em _
      rcases hcc with rfl | hc1
      case' inl =>
        obtain rfl : n = 1 := by omega
        have hmm := HM.out
        simp only [if_true, Nat.sub_self] at hmm
        have HMM := Lib.hid hmm
        clear hmm HM
      case' inr =>
        have hmm := HM.out
        simp only [if_neg hc1] at hmm
        have HMM := Lib.hid hmm
        clear hmm HM
      all_goals
       go_region_with (go_at_call 61; go_loud ((with_reducible refine (HMM.out _ (by repeat (first | exact F34.out | apply Fr.drew | apply Fr.alloc))).mono ?_); rintro e w5 ⟨he, hf⟩; have he' : e = .returned (.tuple #[.agg #[.int .i64 cv, .string ⟨ca.toArray⟩, .string ⟨cb.toArray⟩], .bool ok2]) := he; subst he'; clear he; first | (have hf' : Fr No (W4.alloc (.cells #[.int .i64 0, .string ⟨#[]⟩, .string ⟨#[]⟩] 61)) w5 := ((Fr.refl No _).drew).then_no hf; have bb := (Blk.new W4 61 #[.int .i64 0, .string ⟨#[]⟩, .string ⟨#[]⟩]).fr hf' (fun h => h); have z0 := bb.cell 0; have z1 := bb.cell 1; have z2 := bb.cell 2; have g0 := bb.frozen 0; have g1 := bb.frozen 1; have g2 := bb.frozen 2; simp at z0 z1 z2 g0 g1 g2; have HBB := Lib.hid bb; clear bb; have Hf := Lib.hid (((Fr.refl No W4).alloc _).then_no hf'); clear hf hf') | (have Hf := Lib.hid (((Fr.refl No W4).drew).then_no hf); clear hf)))
       all_goals
         first
           | (have RB6 := (((RB4.out.fr Hf.out (fun h => h)).far (p := ⟨W4.heap.size, 0, none⟩) (by have := RB4.out.lt; show w.heap.size ≠ W4.heap.size; omega) (.int .i64 cv)).far (p := ⟨W4.heap.size, 1, none⟩) (by have := RB4.out.lt; show w.heap.size ≠ W4.heap.size; omega) (.string ⟨ca.toArray⟩)).far (p := ⟨W4.heap.size, 2, none⟩) (by have := RB4.out.lt; show w.heap.size ≠ W4.heap.size; omega) (.string ⟨cb.toArray⟩)
              have bc := ((HBB.out.put 0 (.int .i64 cv)).put 1 (.string ⟨ca.toArray⟩)).put 2 (.string ⟨cb.toArray⟩)
              simp only [Array.setIfInBounds, List.size_toArray, List.length_cons, List.length_nil] at bc
              have F6 := (((F4.out.then_no Hf.out).setCell (p := ⟨W4.heap.size, 0, none⟩) (.inr F4.out.size) (.int .i64 cv)).setCell (p := ⟨W4.heap.size, 1, none⟩) (.inr F4.out.size) (.string ⟨ca.toArray⟩)).setCell (p := ⟨W4.heap.size, 2, none⟩) (.inr F4.out.size) (.string ⟨cb.toArray⟩)
              clear z0 z1 z2 g0 g1 g2 HBB
              generalize ((w5.setCell ⟨W4.heap.size, 0, none⟩ (.int .i64 cv)).setCell ⟨W4.heap.size, 1, none⟩ (.string ⟨ca.toArray⟩)).setCell ⟨W4.heap.size, 2, none⟩ (.string ⟨cb.toArray⟩) = W6 at RB6 bc F6 ⊢
              have RB := Lib.hid RB6
              have F := Lib.hid F6
              clear RB6 F6)
           | (have RB6 := (RB4.out.fr Hf.out (fun h => h)).alloc (.cells #[.int .i64 cv, .string ⟨ca.toArray⟩, .string ⟨cb.toArray⟩] 61)
              have bc := Blk.new w5 61 #[.int .i64 cv, .string ⟨ca.toArray⟩, .string ⟨cb.toArray⟩]
              have F6 := (F4.out.then_no Hf.out).alloc (.cells #[.int .i64 cv, .string ⟨ca.toArray⟩, .string ⟨cb.toArray⟩] 61)
              generalize w5.alloc (.cells #[.int .i64 cv, .string ⟨ca.toArray⟩, .string ⟨cb.toArray⟩] 61) = W6 at RB6 bc F6 ⊢
              have RB := Lib.hid RB6
              have F := Lib.hid F6
              clear RB6 F6)
         have c0 := bc.cell 0
         have c1 := bc.cell 1
         have c2 := bc.cell 2
         simp at c0 c1 c2
         clear bc cl4 hl4 x0 x1 x2 x3 hlx hne4 hnex HMM
         have d0 := RB.out.cell 0
         have d1 := RB.out.cell 1
         have d2 := RB.out.cell 2
         have f0 := RB.out.frozen 0
         have f1 := RB.out.frozen 1
         have f2 := RB.out.frozen 2
         simp at d0 d1 d2
         cases ok2
         · have HR := Lib.hid (show parseR s = (zeroC, 1) by rw [HR2.out]; rfl)
           go_wp2
           have b4 := ((RB.out.put 0 (.int .i64 0)).put 1 (.string ⟨#[]⟩)).put 2 (.string ⟨#[]⟩)
           simp at b4
           have e0 := b4.cell 0
           have e1 := b4.cell 1
           have e2 := b4.cell 2
           simp only [List.getElem?_toArray, List.getElem?_cons_zero, List.getElem?_cons_succ] at e0 e1 e2
           refine bodyPost_ret (v := .tuple #[.agg #[.int .i64 0, .string ⟨#[]⟩, .string ⟨#[]⟩], .int .i64 1]) ?_ rfl ⟨by rw [HR.out]; rfl, ?_⟩
           · clear c0 c1 c2 d0 d1 d2 f0 f1 f2 b4
             simp [results, Try.f28, go_sem, e0, e1, e2]
           · exact ((F.out.setCell (p := ⟨w.heap.size, 0, none⟩) (.inr (Nat.le_refl _)) _).setCell (p := ⟨w.heap.size, 1, none⟩) (.inr (Nat.le_refl _)) _).setCell (p := ⟨w.heap.size, 2, none⟩) (.inr (Nat.le_refl _)) _
         · have HR := Lib.hid (show parseR s = ((cv, ca, cb), 0) by rw [HR2.out]; rfl)
           go_wp2
           have b4 := ((RB.out.put 0 (.int .i64 cv)).put 1 (.string ⟨ca.toArray⟩)).put 2 (.string ⟨cb.toArray⟩)
           simp at b4
           have e0 := b4.cell 0
           have e1 := b4.cell 1
           have e2 := b4.cell 2
           simp only [List.getElem?_toArray, List.getElem?_cons_zero, List.getElem?_cons_succ] at e0 e1 e2
           refine bodyPost_ret (v := .tuple #[.agg #[.int .i64 cv, .string ⟨ca.toArray⟩, .string ⟨cb.toArray⟩], .int .i64 0]) ?_ rfl ⟨by rw [HR.out]; rfl, ?_⟩
           · clear c0 c1 c2 d0 d1 d2 f0 f1 f2 b4
             simp [results, Try.f28, go_sem, e0, e1, e2]
           · exact ((F.out.setCell (p := ⟨w.heap.size, 0, none⟩) (.inr (Nat.le_refl _)) _).setCell (p := ⟨w.heap.size, 1, none⟩) (.inr (Nat.le_refl _)) _).setCell (p := ⟨w.heap.size, 2, none⟩) (.inr (Nat.le_refl _)) _
end Verb
end Go.Proofs.Ytiheeopbifkalaa
