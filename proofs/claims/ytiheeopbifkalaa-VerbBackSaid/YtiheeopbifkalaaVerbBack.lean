/- Statement VerbBack of package verb. -/
import Derived.Test.YtiheeopbifkalaaVerbParses
import Derived.Test.YtiheeopbifkalaaVerbBackP
namespace Go.Proofs.Ytiheeopbifkalaa
open Go.RowKit
set_option linter.unusedVariables false
set_option linter.unusedSimpArgs false
namespace Verb
theorem cmd_cells {w : World} {S : Nat → Prop} {c0 : Array Value} {x : C} (h : (RTwo 1 (RInt .i64) (RTwo 1 RStr RStr)) w S c0.toList x) : c0 = #[.int .i64 x.1, .string ⟨x.2.1.toArray⟩, .string ⟨x.2.2.toArray⟩] ∧ (-9223372036854775808 ≤ x.1 ∧ x.1 ≤ 9223372036854775807) ∧ x.2.1.length ≤ maxLen ∧ x.2.2.length ≤ maxLen := by
  obtain ⟨h1, ⟨h2, h3⟩, h4, ⟨h5, h6⟩, ⟨h7, h8⟩⟩ := h
  have e : c0.toList = [.int .i64 x.1, .string ⟨x.2.1.toArray⟩, .string ⟨x.2.2.toArray⟩] := by
    rw [← List.take_append_drop 1 c0.toList, h2, ← List.take_append_drop 1 (c0.toList.drop 1), h5, h7]; rfl
  have e1 : IntKind.i64.min = -9223372036854775808 := rfl
  have e2 : IntKind.i64.max = 9223372036854775807 := rfl
  refine ⟨by rw [← Array.toArray_toList (xs := c0), e], ?_, h6, h8⟩
  simpa [Lit.wf, e1, e2] using h3
theorem PutIs.is {c : C} {e : Ending} {t : Str} {q : Int} (h : PutIs (putR c) e) (hr : putR c = (t, q)) : e = .returned (.tuple #[.string ⟨t.toArray⟩, .int .i64 q]) := by unfold PutIs at h; rw [hr] at h; exact h
theorem put_len {c : C} : (putR c).1.length ≤ 8 + c.2.1.length + c.2.2.length := by
  have hw := find_word_len (fun x : V => x.1 == c.1)
  unfold putR
  split
  · simp
  · split
    · simp
    · simp only
      unfold lineR
      simp only [List.length_append]
      split <;> split <;> simp <;> omega
set_option maxRecDepth 100000 in
set_option maxHeartbeats 8000000 in
theorem walk_VerbBack (W : World) (c0 : Array Value) (x0 : (Int × (Str × Str))) (h0 : (RTwo 1 (RInt .i64) (RTwo 1 RStr RStr)) W (Ahead W.heap.size) c0.toList x0) (v1 : Value) (s : Str) (h1 : RStr W (Ahead W.heap.size) [v1] s) : Calls Try.prog 7 #[.agg c0, v1] W fun e w' => e = .returned (.bool true) ∧ Fr No W w' := by
  obtain ⟨rfl, hcv, hca, hcb⟩ := cmd_cells h0
  obtain ⟨cv, ca, cb⟩ := x0
  simp only at hcv hca hcb
  obtain ⟨h1a, h1b⟩ := h1
  injection h1a with h1a _
  subst h1a
  unfold maxLen at h1b hca hcb
  clear h0
  have hbig : (100 < ca.length ∨ 100 < cb.length ∨ 400 < s.length) ∨ (ca.length ≤ 100 ∧ cb.length ≤ 100 ∧ s.length ≤ 400) := by omega
  rcases hbig with hbig | ⟨hl1, hl2, hl3⟩
  · have hbig : 100 < ca.length ∨ (ca.length ≤ 100 ∧ 100 < cb.length) ∨ (ca.length ≤ 100 ∧ cb.length ≤ 100 ∧ 400 < s.length) := by omega
    rcases hbig with h | ⟨h, h'⟩ | ⟨h, h', h''⟩
    all_goals
      go_enter Try.func7, Try.ntmps7
      go_wp2_with (go_at_call 27; refine (works_any _).mono ?_; rintro e w' ⟨rfl, hf⟩; have Hf := Lib.hid hf; clear hf)
      go_ret
      exact ⟨rfl, ((Fr.refl No W).alloc _).then_no Hf.out⟩
  obtain ⟨⟨t, q⟩, hpt⟩ : ∃ r, putR (cv, ca, cb) = r := ⟨_, rfl⟩
  have htl : t.length ≤ 300 := by
    have := put_len (c := (cv, ca, cb))
    rw [hpt] at this
    simp only at this
    omega
  have HPT := Lib.hid hpt
  obtain ⟨⟨⟨pv, pa, pb⟩, pc⟩, hp⟩ : ∃ r, parseR s = r := ⟨_, rfl⟩
  have HP := Lib.hid hp
  have hg : Try.prog.eqGuardType Try.prog.depth 61 = false := by kernel_rfl
  have HB := Lib.hid (fun h : pc = 0 => back (s := s) (x := (pv, pa, pb)) (by rw [hp, h]))
  clear hpt hp
  go_enter Try.func7, Try.ntmps7
  go_wp2_with fail
  refine (put_any (cv, ca, cb) _ (by simp only; omega) (by simp only; omega)).mono ?_
  rintro e w1 ⟨hp, hf⟩
  have he := hp.is HPT.out
  subst he
  have BC := Lib.hid ((Blk.new W 61 #[.int .i64 cv, .string ⟨ca.toArray⟩, .string ⟨cb.toArray⟩]).fr hf (fun h => h))
  have F1 := Lib.hid (((Fr.refl No W).alloc _).then_no hf)
  have c0 := BC.out.cell 0
  have c1 := BC.out.cell 1
  have c2 := BC.out.cell 2
  simp at c0 c1 c2
  clear hp hf
  go_wp2_with fail
  refine (rput_any (cv, ca, cb) _ (by simp only; omega) (by simp only; omega) hcv).mono ?_
  rintro e w2 ⟨hp, hf⟩
  have he := hp.is HPT.out
  subst he
  have BC := Lib.hid (BC.out.fr hf (fun h => h))
  have F2 := Lib.hid (F1.out.then_no hf)
  clear hp hf c0 c1 c2 F1
  by_cases hq0 : q = 0
  · subst hq0
    have HT := Lib.hid (put_ok HPT.out)
    go_wp2_with fail
    refine (parse_any t _ (by omega)).mono ?_
    rintro e w3 ⟨hp, hf⟩
    have he := hp.is HT.out
    subst he
    have BC3 := BC.out.fr hf (fun h => h)
    have F3 := Lib.hid (F2.out.then_no hf)
    have c0 := BC3.cell 0
    have c1 := BC3.cell 1
    have c2 := BC3.cell 2
    simp at c0 c1 c2
    have hltc := BC3.lt
    have hnec : W.heap.size ≠ w3.heap.size := by omega
    have hq3 := fun W => neq_cmd W cv cv ca ca cb cb
    simp only [decide_true, Bool.not_true] at hq3
    clear hp hf F2 BC BC3
    go_wp2_with fail
    have F4 := Lib.hid (F3.out.alloc (.cells #[.int .i64 cv, .string ⟨ca.toArray⟩, .string ⟨cb.toArray⟩] 61))
    clear F3 hq3 c0 c1 c2
    generalize w3.alloc (.cells #[.int .i64 cv, .string ⟨ca.toArray⟩, .string ⟨cb.toArray⟩] 61) = W4 at F4 ⊢
    refine (parse_any s _ (by omega)).mono ?_
    rintro e w5 ⟨hp, hf⟩
    have he := hp.is HP.out
    subst he
    have F5 := Lib.hid (F4.out.then_no hf)
    clear hp hf F4
    by_cases hpc : pc = 0
    · obtain ⟨y, hy, hy1, hy2, hy3⟩ := HB.out hpc
      subst hpc
      have HY := Lib.hid hy
      have HY2 := Lib.hid (put_ok hy)
      clear hy HB
      go_wp2_with fail
      have BX := Lib.hid (Blk.new w5 61 #[.int .i64 pv, .string ⟨pa.toArray⟩, .string ⟨pb.toArray⟩])
      have F6 := Lib.hid (F5.out.alloc (.cells #[.int .i64 pv, .string ⟨pa.toArray⟩, .string ⟨pb.toArray⟩] 61))
      generalize w5.alloc (.cells #[.int .i64 pv, .string ⟨pa.toArray⟩, .string ⟨pb.toArray⟩] 61) = W5 at BX F6 ⊢
      refine (put_any (pv, pa, pb) _ (by simp only; omega) (by simp only; omega)).mono ?_
      rintro e w6 ⟨hp, hf⟩
      have he := hp.is HY.out
      subst he
      have BX := Lib.hid (BX.out.fr hf (fun h => h))
      have F6 := Lib.hid (F6.out.then_no hf)
      clear hp hf F5
      go_wp2_with fail
      refine (parse_any y _ (by omega)).mono ?_
      rintro e w7 ⟨hp, hf⟩
      have he := hp.is HY2.out
      subst he
      have BX := BX.out.fr hf (fun h => h)
      have F7 := Lib.hid (F6.out.then_no hf)
      have x0 := BX.cell 0
      have x1 := BX.cell 1
      have x2 := BX.cell 2
      simp at x0 x1 x2
      have hltx := BX.lt
      have hnex : w5.heap.size ≠ w7.heap.size := by omega
      have hq7 := fun W => eql_cmd W pv pv pa pa pb pb
      simp only [decide_true] at hq7
      clear hp hf F6 BX
      go_wp2_with (go_at_call 27; refine (works_any _).mono ?_; rintro e w' ⟨rfl, hf⟩; have Hf := Lib.hid hf; clear hf)
      go_ret
      exact ⟨rfl, (F7.out.alloc _).then_no Hf.out⟩
    · have hpc2 : (pc != 0) = true := bne_iff_ne.2 hpc
      clear hpc
      go_wp2_with (go_at_call 27; refine (works_any _).mono ?_; rintro e w' ⟨rfl, hf⟩; have Hf := Lib.hid hf; clear hf)
      go_ret
      exact ⟨rfl, (F5.out.alloc _).then_no Hf.out⟩
  · have hq2 : (q == 0) = false := beq_eq_false_iff_ne.2 hq0
    clear hq0 BC
    have F4 := F2
    clear F2
    go_wp2_with fail
    refine (parse_any s _ (by omega)).mono ?_
    rintro e w5 ⟨hp, hf⟩
    have he := hp.is HP.out
    subst he
    have F5 := Lib.hid (F4.out.then_no hf)
    clear hp hf F4
    by_cases hpc : pc = 0
    · obtain ⟨y, hy, hy1, hy2, hy3⟩ := HB.out hpc
      subst hpc
      have HY := Lib.hid hy
      have HY2 := Lib.hid (put_ok hy)
      clear hy HB
      go_wp2_with fail
      have BX := Lib.hid (Blk.new w5 61 #[.int .i64 pv, .string ⟨pa.toArray⟩, .string ⟨pb.toArray⟩])
      have F6 := Lib.hid (F5.out.alloc (.cells #[.int .i64 pv, .string ⟨pa.toArray⟩, .string ⟨pb.toArray⟩] 61))
      generalize w5.alloc (.cells #[.int .i64 pv, .string ⟨pa.toArray⟩, .string ⟨pb.toArray⟩] 61) = W5 at BX F6 ⊢
      refine (put_any (pv, pa, pb) _ (by simp only; omega) (by simp only; omega)).mono ?_
      rintro e w6 ⟨hp, hf⟩
      have he := hp.is HY.out
      subst he
      have BX := Lib.hid (BX.out.fr hf (fun h => h))
      have F6 := Lib.hid (F6.out.then_no hf)
      clear hp hf F5
      go_wp2_with fail
      refine (parse_any y _ (by omega)).mono ?_
      rintro e w7 ⟨hp, hf⟩
      have he := hp.is HY2.out
      subst he
      have BX := BX.out.fr hf (fun h => h)
      have F7 := Lib.hid (F6.out.then_no hf)
      have x0 := BX.cell 0
      have x1 := BX.cell 1
      have x2 := BX.cell 2
      simp at x0 x1 x2
      have hltx := BX.lt
      have hnex : w5.heap.size ≠ w7.heap.size := by omega
      have hq7 := fun W => eql_cmd W pv pv pa pa pb pb
      simp only [decide_true] at hq7
      clear hp hf F6 BX
      go_wp2_with (go_at_call 27; refine (works_any _).mono ?_; rintro e w' ⟨rfl, hf⟩; have Hf := Lib.hid hf; clear hf)
      go_ret
      exact ⟨rfl, (F7.out.alloc _).then_no Hf.out⟩
    · have hpc2 : (pc != 0) = true := bne_iff_ne.2 hpc
      clear hpc
      go_wp2_with (go_at_call 27; refine (works_any _).mono ?_; rintro e w' ⟨rfl, hf⟩; have Hf := Lib.hid hf; clear hf)
      go_ret
      exact ⟨rfl, (F5.out.alloc _).then_no Hf.out⟩
end Verb
end Go.Proofs.Ytiheeopbifkalaa
