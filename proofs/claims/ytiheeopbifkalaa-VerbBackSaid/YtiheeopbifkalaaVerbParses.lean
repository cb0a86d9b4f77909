/- Statement VerbParses of package verb. -/
import Derived.Test.YtiheeopbifkalaaVerbBlanks
import Derived.Test.YtiheeopbifkalaaVerbRPut
namespace Go.Proofs.Ytiheeopbifkalaa
open Go.RowKit
set_option linter.unusedVariables false
set_option linter.unusedSimpArgs false
namespace Verb
set_option maxRecDepth 100000 in
set_option maxHeartbeats 4000000 in
theorem walk_VerbParses (W : World) (v0 : Value) (s : Str) (h0 : RStr W (Ahead W.heap.size) [v0] s) (v1 : Value) (x1 : Int) (h1 : (RInt .i64) W (Ahead W.heap.size) [v1] x1) : Calls Try.prog 6 #[v0, v1] W fun e w' => e = .returned (.bool true) ∧ Fr No W w' := by
  obtain ⟨h0a, h0b⟩ := h0
  injection h0a with h0a _
  subst h0a
  unfold maxLen at h0b
  obtain ⟨h1a, _⟩ := h1
  injection h1a with h1a _
  subst h1a
  by_cases hl : 400 < s.length
  · go_enter Try.func6, Try.ntmps6
    go_wp2_with (go_at_call 27; refine (works_any _).mono ?_; rintro e w' ⟨rfl, hf⟩; have Hf := Lib.hid hf; clear hf)
    go_ret
    exact ⟨rfl, Hf.out⟩
  obtain ⟨⟨⟨pv, pa, pb⟩, pc⟩, hp⟩ : ∃ r, parseR s = r := ⟨_, rfl⟩
  have HP := Lib.hid hp
  clear hp
  have hg : Try.prog.eqGuardType Try.prog.depth 61 = false := by kernel_rfl
  by_cases hv : 1 ≤ x1 ∧ x1 ≤ 16
  · obtain ⟨k, rfl⟩ : ∃ k : Nat, x1 = k := ⟨x1.toNat, by omega⟩
    have hk : 1 ≤ k ∧ k ≤ 16 := by omega
    have hw : wordR (k : Int) = wordsL.getD k [] := (find_verb k hk.1 hk.2).2
    have hwk := words_at k (by omega)
    obtain ⟨t, ht⟩ : ∃ t, t = wordsL.getD k [] := ⟨_, rfl⟩
    rw [← ht] at hw hwk
    have HW := Lib.hid hw
    have HWK := Lib.hid hwk
    clear hw hwk ht hv
    go_enter Try.func6, Try.ntmps6
    go_wp2_with fail
    refine (parse_any s _ (by omega)).mono ?_
    rintro e w1 ⟨hp, hf⟩
    have he := hp.is HP.out
    subst he
    have F1 := Lib.hid hf
    clear hp hf
    go_wp2_with fail
    have B1 := Lib.hid (Blk.new w1 61 #[.int .i64 pv, .string ⟨pa.toArray⟩, .string ⟨pb.toArray⟩])
    have F2 := Lib.hid (F1.out.alloc (.cells #[.int .i64 pv, .string ⟨pa.toArray⟩, .string ⟨pb.toArray⟩] 61))
    generalize w1.alloc (.cells #[.int .i64 pv, .string ⟨pa.toArray⟩, .string ⟨pb.toArray⟩] 61) = W1 at B1 F2 ⊢
    refine (rparse_any s _ (by omega)).mono ?_
    rintro e w2 ⟨hp, hf⟩
    have he := hp.is HP.out
    subst he
    have B2 := Lib.hid (B1.out.fr hf (fun h => h))
    have F3 := Lib.hid (F2.out.then_no hf)
    clear hp hf B1 F2
    go_wp2_with fail
    have B3 := Lib.hid (B2.out.alloc (.cells #[.int .i64 pv, .string ⟨pa.toArray⟩, .string ⟨pb.toArray⟩] 61))
    have D3 := Lib.hid (Blk.new w2 61 #[.int .i64 pv, .string ⟨pa.toArray⟩, .string ⟨pb.toArray⟩])
    have F4 := Lib.hid (F3.out.alloc (.cells #[.int .i64 pv, .string ⟨pa.toArray⟩, .string ⟨pb.toArray⟩] 61))
    generalize w2.alloc (.cells #[.int .i64 pv, .string ⟨pa.toArray⟩, .string ⟨pb.toArray⟩] 61) = W2 at B3 D3 F4 ⊢
    refine (words_any _).mono ?_
    rintro e w3 ⟨rfl, hw3⟩
    have BW := Blk.new W2 9 (wordsL.map Word.encS).toArray
    have F5 := F4.out.alloc (.cells (wordsL.map Word.encS).toArray 9)
    have B4 := B3.out.alloc (.cells (wordsL.map Word.encS).toArray 9)
    have D4 := D3.out.alloc (.cells (wordsL.map Word.encS).toArray 9)
    rw [← hw3] at BW F5 B4 D4
    have ck := (BW.cell k).trans HWK.out
    have b0 := B4.cell 0
    have b1 := B4.cell 1
    have b2 := B4.cell 2
    have d0 := D4.cell 0
    have d1 := D4.cell 1
    have d2 := D4.cell 2
    simp at b0 b1 b2 d0 d1 d2
    have hq := fun W => eql_cmd W pv pv pa pa pb pb
    simp only [decide_true] at hq
    have F5 := Lib.hid F5
    clear hw3 BW B4 D4 B2 F3 B3 D3 F4
    go_wp2_with (first
      | (go_at_call 31; refine (word_any _ _).mono ?_; rintro e w' ⟨rfl, hf⟩; rw [HW.out]; have Hf := Lib.hid hf; clear hf)
      | (go_at_call 27; refine (works_any _).mono ?_; rintro e w' ⟨rfl, hf⟩; have Hg := Lib.hid hf; clear hf))
    go_ret
    exact ⟨rfl, (F5.out.then_no Hf.out).then_no Hg.out⟩
  · have hw : wordR x1 = [] := by
      have hn : verbs.find? (fun x => x.1 == x1) = none := by
        rw [List.find?_eq_none]
        intro x hx
        have : ∀ x ∈ verbs, 1 ≤ x.1 ∧ x.1 ≤ 16 := by decide
        have := this x hx
        simp
        omega
      unfold wordR findR
      rw [hn]; rfl
    have HW := Lib.hid hw
    have hv2 : x1 < 1 ∨ 16 < x1 := by omega
    clear hw hv
    rcases hv2 with hv | hv
    all_goals
      go_enter Try.func6, Try.ntmps6
      go_wp2_with fail
      refine (parse_any s _ (by omega)).mono ?_
      rintro e w1 ⟨hp, hf⟩
      have he := hp.is HP.out
      subst he
      have F1 := Lib.hid hf
      clear hp hf
      go_wp2_with fail
      have B1 := Lib.hid (Blk.new w1 61 #[.int .i64 pv, .string ⟨pa.toArray⟩, .string ⟨pb.toArray⟩])
      have F2 := Lib.hid (F1.out.alloc (.cells #[.int .i64 pv, .string ⟨pa.toArray⟩, .string ⟨pb.toArray⟩] 61))
      generalize w1.alloc (.cells #[.int .i64 pv, .string ⟨pa.toArray⟩, .string ⟨pb.toArray⟩] 61) = W1 at B1 F2 ⊢
      refine (rparse_any s _ (by omega)).mono ?_
      rintro e w2 ⟨hp, hf⟩
      have he := hp.is HP.out
      subst he
      have B2 := B1.out.fr hf (fun h => h)
      have F3 := Lib.hid (F2.out.then_no hf)
      have b0 := B2.cell 0
      have b1 := B2.cell 1
      have b2 := B2.cell 2
      simp at b0 b1 b2
      have hlt := B2.lt
      have hne : w1.heap.size ≠ w2.heap.size := by omega
      have hq := fun W => eql_cmd W pv pv pa pa pb pb
      simp only [decide_true] at hq
      clear hp hf B1 F2 B2
      go_wp2_with (first
        | (go_at_call 31; refine (word_any _ _).mono ?_; rintro e w' ⟨rfl, hf⟩; rw [HW.out]; have Hf := Lib.hid hf; clear hf)
        | (go_at_call 27; refine (works_any _).mono ?_; rintro e w' ⟨rfl, hf⟩; have Hg := Lib.hid hf; clear hf))
      go_ret
      exact ⟨rfl, ((F3.out.alloc _).then_no Hf.out).then_no Hg.out⟩
end Verb
end Go.Proofs.Ytiheeopbifkalaa
