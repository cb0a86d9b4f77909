/- The reference of package verb: Put. -/
import Derived.Test.YtiheeopbifkalaaVerbPut
import Derived.Test.YtiheeopbifkalaaVerbRWalk
namespace Go.Proofs.Ytiheeopbifkalaa
open Go.RowKit
set_option linter.unusedVariables false
set_option linter.unusedSimpArgs false
namespace Verb
theorem find_verb (k : Nat) (h1 : 1 ≤ k) (h2 : k ≤ 16) : (findR (fun x => x.1 == (k : Int))).2 = true ∧ (findR (fun x => x.1 == (k : Int))).1.2.1 = wordsL.getD k [] := by
  have : ∀ k ∈ List.range 17, 1 ≤ k → (findR (fun x => x.1 == (k : Int))).2 = true ∧ (findR (fun x => x.1 == (k : Int))).1.2.1 = wordsL.getD k [] := by decide
  exact this k (List.mem_range.2 (by omega)) h1
theorem find_noverb (v : Int) (h : v < 1 ∨ 17 ≤ v) : (findR (fun x => x.1 == v)).2 = false := by
  have hn : verbs.find? (fun x => x.1 == v) = none := by
    rw [List.find?_eq_none]
    intro x hx
    have : ∀ x ∈ verbs, 1 ≤ x.1 ∧ x.1 ≤ 16 := by decide
    have := this x hx
    simp
    omega
  unfold findR
  rw [hn]
set_option maxRecDepth 100000 in
set_option maxHeartbeats 4000000 in
theorem rput_any (c : C) (w : World) (ha : c.2.1.length ≤ 100000) (hb : c.2.2.length ≤ 100000) (hv : -9223372036854775808 ≤ c.1 ∧ c.1 ≤ 9223372036854775807) : Calls Try.prog 33 #[.agg #[.int .i64 c.1, .string ⟨c.2.1.toArray⟩, .string ⟨c.2.2.toArray⟩]] w fun e w' => PutIs (putR c) e ∧ Fr No w w' := by
  obtain ⟨cv, ca, cb⟩ := c
  simp only at ha hb hv
  by_cases h0 : cv < 1 ∨ 17 ≤ cv
  · have HR := Lib.hid (show putR (cv, ca, cb) = ([], 1) by unfold putR; rw [if_pos (find_noverb cv h0)])
    rcases h0 with h0 | h0
    all_goals
      go_enter Try.func33, Try.ntmps33
      go_wp2_with fail
      refine (words_any _).mono ?_
      rintro e w2 ⟨rfl, rfl⟩
      go_wp2
      go_ret2
      exact ⟨by rw [HR.out]; rfl, ((Fr.refl No w).alloc _).alloc _⟩
  · obtain ⟨k, rfl⟩ : ∃ k : Nat, cv = k := ⟨cv.toNat, by omega⟩
    have hk : 1 ≤ k ∧ k ≤ 16 := by omega
    obtain ⟨g1, g2⟩ := find_verb k hk.1 hk.2
    obtain ⟨xw, hxw⟩ : ∃ xw, xw = wordsL.getD k [] := ⟨_, rfl⟩
    have hwl := find_word_len (fun x : V => x.1 == (k : Int))
    rw [g2, ← hxw] at hwl
    have HR1 := Lib.hid (show putR ((k : Int), ca, cb) = if (parseR (lineR xw ((k : Int), ca, cb))).2 ≠ 0 ∨ (parseR (lineR xw ((k : Int), ca, cb))).1 ≠ ((k : Int), ca, cb) then ([], 3) else (lineR xw ((k : Int), ca, cb), 0) by
      unfold putR
      simp only
      rw [if_neg (by rw [g1]; decide), g2, ← hxw])
    have hwk := words_at k (by omega)
    rw [← hxw] at hwk
    have HWK := Lib.hid hwk
    clear hwk hxw g1 g2
    obtain ⟨t, ht⟩ : ∃ t, t = lineR xw ((k : Int), ca, cb) := ⟨_, rfl⟩
    have htl : t.length ≤ 400000 := by rw [ht]; unfold lineR; simp only [List.length_append]; split <;> split <;> simp <;> omega
    rw [← ht] at HR1
    have hpa := fun W => rparse_any t W htl
    obtain ⟨⟨⟨pv, pa, pb⟩, pc⟩, hpr⟩ : ∃ r, r = parseR t := ⟨_, rfl⟩
    rw [← hpr] at hpa HR1
    have Hpa := Lib.hid hpa
    clear hpa
    go_enter Try.func33, Try.ntmps33
    go_wp2_with fail
    refine (words_any _).mono ?_
    rintro e w2 ⟨rfl, hw2⟩
    have BC := ((Blk.new w 61 #[.int .i64 k, .string ⟨ca.toArray⟩, .string ⟨cb.toArray⟩]).alloc (.cells (wordsL.map Word.encS).toArray 9))
    have BW := Blk.new (w.alloc (.cells #[.int .i64 k, .string ⟨ca.toArray⟩, .string ⟨cb.toArray⟩] 61)) 9 (wordsL.map Word.encS).toArray
    have F2 := ((Fr.refl No w).alloc (.cells #[.int .i64 k, .string ⟨ca.toArray⟩, .string ⟨cb.toArray⟩] 61)).alloc (.cells (wordsL.map Word.encS).toArray 9)
    rw [← hw2] at BC BW F2
    rw [size_alloc] at BW ⊢
    clear hw2
    have BC := Lib.hid BC
    have F2 := Lib.hid F2
    have c0 := BC.out.cell 0
    have c1 := BC.out.cell 1
    have c2 := BC.out.cell 2
    simp at c0 c1 c2
    have ck := (BW.cell k).trans HWK.out
    have hltc := BC.out.lt
    clear BW
    have hcs : (pc != 0) = true ∨ ((pc != 0) = false ∧ (decide ((pv, pa, pb) = ((k : Int), ca, cb)) = false)) ∨ ((pc != 0) = false ∧ (decide ((pv, pa, pb) = ((k : Int), ca, cb)) = true)) := by
      cases h1 : pc != 0
      · cases h2 : decide ((pv, pa, pb) = ((k : Int), ca, cb))
        · exact .inr (.inl ⟨rfl, rfl⟩)
        · exact .inr (.inr ⟨rfl, rfl⟩)
      · exact .inl rfl
    have HE1 := Lib.hid (fun h : (pc != 0) = true => show putR ((k : Int), ca, cb) = ([], 3) by rw [HR1.out, if_pos (Or.inl (bne_iff_ne.1 h))])
    have HE2 := Lib.hid (fun h : decide ((pv, pa, pb) = ((k : Int), ca, cb)) = false => show putR ((k : Int), ca, cb) = ([], 3) by rw [HR1.out, if_pos (Or.inr (of_decide_eq_false h))])
    have HG := Lib.hid (fun (h1 : (pc != 0) = false) (h2 : decide ((pv, pa, pb) = ((k : Int), ca, cb)) = true) => show putR ((k : Int), ca, cb) = (t, 0) by
      rw [HR1.out, if_neg]
      rintro (h | h)
      · exact h (bne_eq_false_iff_eq.1 h1)
      · exact h (of_decide_eq_true h2))
    have hq := fun W => neq_cmd W pv k pa ca pb cb
    have hg : Try.prog.eqGuardType Try.prog.depth 61 = false := by kernel_rfl
    have HQ := Lib.hid hq
    clear hq HR1
    cases hea : ca.isEmpty
    · cases heb : cb.isEmpty
      · have he : (⟨xw.toArray⟩ : ByteArray) ++ ⟨#[32]⟩ ++ ⟨ca.toArray⟩ ++ ⟨#[32]⟩ ++ ⟨cb.toArray⟩ = ⟨t.toArray⟩ := by
          rw [ht]; unfold lineR; simp only [hea, heb]
          rw [show (xw ++ (if false = true then [] else 32 :: ca) ++ if false = true then [] else 32 :: cb) = xw ++ [32] ++ ca ++ [32] ++ cb by simp]
          rfl
        have He := Lib.hid he
        clear he ht
        go_wp2_with fail
        rw [He.out]
        refine (Hpa.out _).mono ?_
        rintro e w3 ⟨hp, hf⟩
        have hp' : e = .returned (.tuple #[.agg #[.int .i64 pv, .string ⟨pa.toArray⟩, .string ⟨pb.toArray⟩], .int .i64 pc]) := hp
        subst hp'
        have B3 := BC.out.fr hf (fun h => h)
        have F3 := Lib.hid (F2.out.then_no hf)
        have k0 := B3.cell 0
        have k1 := B3.cell 1
        have k2 := B3.cell 2
        simp at k0 k1 k2
        have hlt3 := B3.lt
        have hne3 : w.heap.size ≠ w3.heap.size := by omega
        clear hf hp B3 c0 c1 c2
        rcases hcs with h1 | ⟨h1, h2⟩ | ⟨h1, h2⟩
        · have HR := Lib.hid (HE1.out h1)
          go_wp2
          go_ret2
          exact ⟨by rw [HR.out]; rfl, F3.out.alloc _⟩
        · have HR := Lib.hid (HE2.out h2)
          have hq := HQ.out
          rw [h2] at hq
          clear h2
          go_wp2
          go_ret2
          exact ⟨by rw [HR.out]; rfl, F3.out.alloc _⟩
        · have HR := Lib.hid (HG.out h1 h2)
          have hq := HQ.out
          rw [h2] at hq
          clear h2
          go_wp2
          go_ret2
          exact ⟨by rw [HR.out]; rfl, F3.out.alloc _⟩
      · have he : (⟨xw.toArray⟩ : ByteArray) ++ ⟨#[32]⟩ ++ ⟨ca.toArray⟩ = ⟨t.toArray⟩ := by
          rw [ht]; unfold lineR; simp only [hea, heb, if_true, List.append_nil]
          rw [show (xw ++ (if false = true then [] else 32 :: ca)) = xw ++ [32] ++ ca by simp]
          rfl
        have He := Lib.hid he
        clear he ht
        go_wp2_with fail
        rw [He.out]
        refine (Hpa.out _).mono ?_
        rintro e w3 ⟨hp, hf⟩
        have hp' : e = .returned (.tuple #[.agg #[.int .i64 pv, .string ⟨pa.toArray⟩, .string ⟨pb.toArray⟩], .int .i64 pc]) := hp
        subst hp'
        have B3 := BC.out.fr hf (fun h => h)
        have F3 := Lib.hid (F2.out.then_no hf)
        have k0 := B3.cell 0
        have k1 := B3.cell 1
        have k2 := B3.cell 2
        simp at k0 k1 k2
        have hlt3 := B3.lt
        have hne3 : w.heap.size ≠ w3.heap.size := by omega
        clear hf hp B3 c0 c1 c2
        rcases hcs with h1 | ⟨h1, h2⟩ | ⟨h1, h2⟩
        · have HR := Lib.hid (HE1.out h1)
          go_wp2
          go_ret2
          exact ⟨by rw [HR.out]; rfl, F3.out.alloc _⟩
        · have HR := Lib.hid (HE2.out h2)
          have hq := HQ.out
          rw [h2] at hq
          clear h2
          go_wp2
          go_ret2
          exact ⟨by rw [HR.out]; rfl, F3.out.alloc _⟩
        · have HR := Lib.hid (HG.out h1 h2)
          have hq := HQ.out
          rw [h2] at hq
          clear h2
          go_wp2
          go_ret2
          exact ⟨by rw [HR.out]; rfl, F3.out.alloc _⟩
    · cases heb : cb.isEmpty
      · have he : (⟨xw.toArray⟩ : ByteArray) ++ ⟨#[32]⟩ ++ ⟨cb.toArray⟩ = ⟨t.toArray⟩ := by
          rw [ht]; unfold lineR; simp only [hea, heb, if_true, List.append_nil]
          rw [show (xw ++ (if false = true then [] else 32 :: cb)) = xw ++ [32] ++ cb by simp]
          rfl
        have He := Lib.hid he
        clear he ht
        go_wp2_with fail
        rw [He.out]
        refine (Hpa.out _).mono ?_
        rintro e w3 ⟨hp, hf⟩
        have hp' : e = .returned (.tuple #[.agg #[.int .i64 pv, .string ⟨pa.toArray⟩, .string ⟨pb.toArray⟩], .int .i64 pc]) := hp
        subst hp'
        have B3 := BC.out.fr hf (fun h => h)
        have F3 := Lib.hid (F2.out.then_no hf)
        have k0 := B3.cell 0
        have k1 := B3.cell 1
        have k2 := B3.cell 2
        simp at k0 k1 k2
        have hlt3 := B3.lt
        have hne3 : w.heap.size ≠ w3.heap.size := by omega
        clear hf hp B3 c0 c1 c2
        rcases hcs with h1 | ⟨h1, h2⟩ | ⟨h1, h2⟩
        · have HR := Lib.hid (HE1.out h1)
          go_wp2
          go_ret2
          exact ⟨by rw [HR.out]; rfl, F3.out.alloc _⟩
        · have HR := Lib.hid (HE2.out h2)
          have hq := HQ.out
          rw [h2] at hq
          clear h2
          go_wp2
          go_ret2
          exact ⟨by rw [HR.out]; rfl, F3.out.alloc _⟩
        · have HR := Lib.hid (HG.out h1 h2)
          have hq := HQ.out
          rw [h2] at hq
          clear h2
          go_wp2
          go_ret2
          exact ⟨by rw [HR.out]; rfl, F3.out.alloc _⟩
      · have he : xw = t := by
          rw [ht]; unfold lineR; simp only [hea, heb, if_true, List.append_nil]
        clear ht
        subst he
        go_wp2_with fail
        refine (Hpa.out _).mono ?_
        rintro e w3 ⟨hp, hf⟩
        have hp' : e = .returned (.tuple #[.agg #[.int .i64 pv, .string ⟨pa.toArray⟩, .string ⟨pb.toArray⟩], .int .i64 pc]) := hp
        subst hp'
        have B3 := BC.out.fr hf (fun h => h)
        have F3 := Lib.hid (F2.out.then_no hf)
        have k0 := B3.cell 0
        have k1 := B3.cell 1
        have k2 := B3.cell 2
        simp at k0 k1 k2
        have hlt3 := B3.lt
        have hne3 : w.heap.size ≠ w3.heap.size := by omega
        clear hf hp B3 c0 c1 c2
        rcases hcs with h1 | ⟨h1, h2⟩ | ⟨h1, h2⟩
        · have HR := Lib.hid (HE1.out h1)
          go_wp2
          go_ret2
          exact ⟨by rw [HR.out]; rfl, F3.out.alloc _⟩
        · have HR := Lib.hid (HE2.out h2)
          have hq := HQ.out
          rw [h2] at hq
          clear h2
          go_wp2
          go_ret2
          exact ⟨by rw [HR.out]; rfl, F3.out.alloc _⟩
        · have HR := Lib.hid (HG.out h1 h2)
          have hq := HQ.out
          rw [h2] at hq
          clear h2
          go_wp2
          go_ret2
          exact ⟨by rw [HR.out]; rfl, F3.out.alloc _⟩
end Verb
end Go.Proofs.Ytiheeopbifkalaa
