/- Statement VerbBlanks of package verb. -/
import Derived.Test.YtiheeopbifkalaaVerbWorks
import Derived.Test.YtiheeopbifkalaaVerbLaws
namespace Go.Proofs.Ytiheeopbifkalaa
open Go.RowKit
set_option linter.unusedVariables false
set_option linter.unusedSimpArgs false
namespace Verb
theorem ParseIs.is {s : Str} {e : Ending} {pv : Int} {pa pb : Str} {pc : Int} (h : ParseIs (parseR s) e) (hr : parseR s = ((pv, pa, pb), pc)) : e = .returned (.tuple #[.agg #[.int .i64 pv, .string ⟨pa.toArray⟩, .string ⟨pb.toArray⟩], .int .i64 pc]) := h.known hr
set_option maxRecDepth 100000 in
set_option maxHeartbeats 4000000 in
theorem walk_VerbBlanks (W : World) (v0 : Value) (s : Str) (h0 : RStr W (Ahead W.heap.size) [v0] s) : Calls Try.prog 8 #[v0] W fun e w' => e = .returned (.bool true) ∧ Fr No W w' := by
  obtain ⟨h0a, h0b⟩ := h0
  injection h0a with h0a _
  subst h0a
  unfold maxLen at h0b
  by_cases hl : 400 < s.length
  · go_enter Try.func8, Try.ntmps8
    go_wp2_with (go_at_call 27; refine (works_any _).mono ?_; rintro e w' ⟨rfl, hf⟩; have Hf := Lib.hid hf; clear hf)
    go_ret
    exact ⟨rfl, Hf.out⟩
  obtain ⟨⟨⟨pv, pa, pb⟩, pc⟩, hp⟩ : ∃ r, parseR s = r := ⟨_, rfl⟩
  have HP := Lib.hid hp
  obtain ⟨L, hL⟩ : ∃ L, L = Word.cutR s := ⟨_, rfl⟩
  have htl : Word.tot L ≤ 1000 := by
    have := Word.cutG_len s []
    rw [hL]
    simp at this
    unfold Word.tot Word.cutR
    omega
  have hml : ∀ x ∈ L, x.length ≤ maxLen := fun x hx => by rw [hL] at hx; exact Nat.le_trans (Word.cutR_mem hx) (by unfold maxLen; omega)
  obtain ⟨j, hj⟩ : ∃ j, j = Word.joinR L := ⟨_, rfl⟩
  have hjl : j.length ≤ 1000 := by rw [hj]; exact Nat.le_trans (Word.join_len L) htl
  have HP2 := Lib.hid (show parseR ([32, 32] ++ j ++ [9]) = ((pv, pa, pb), pc) by
    rw [← hp, hj, hL]
    unfold parseR
    rw [Word.cut_blanks])
  have he : (⟨#[32, 32]⟩ : ByteArray) ++ ⟨j.toArray⟩ ++ ⟨#[9]⟩ = ⟨([32, 32] ++ j ++ [9] : Str).toArray⟩ := rfl
  have He := Lib.hid he
  have HL := Lib.hid hL
  have HJ := Lib.hid hj
  have Hml := Lib.hid hml
  clear hp he hL hj hml
  go_enter Try.func8, Try.ntmps8
  go_wp2_with fail
  refine (parse_any s _ (by omega)).mono ?_
  rintro e w1 ⟨hp, hf⟩
  have he := hp.is HP.out
  subst he
  have F1 := Lib.hid hf
  clear hp hf
  go_wp2_with fail
  have B1 := Lib.hid (Blk.new w1 61 #[.int .i64 pv, .string ⟨pa.toArray⟩, .string ⟨pb.toArray⟩])
  have F2 := Lib.hid (F1.out.alloc (.cells #[.int .i64 pv, .string ⟨pa.toArray⟩, .string ⟨pb.toArray⟩] 61))
  generalize w1.alloc (.cells #[.int .i64 pv, .string ⟨pa.toArray⟩, .string ⟨pb.toArray⟩] 61) = W1 at B1 F2 ⊢
  refine (Word.rcut_any s _ (by omega)).mono ?_
  rintro e w2 ⟨v, rfl, ho, hst⟩
  rw [← HL.out] at ho
  have hf : Fr No W1 w2 := hst.1
  have B2 := Lib.hid (B1.out.fr hf (fun h => h))
  have F3 := Lib.hid (F2.out.then_no hf)
  have HO := Lib.hid (Word.own_strs ho Hml.out)
  clear ho hst hf B1 F2
  go_wp2_with fail
  refine (Word.rjoin_any v L w2 _ HO.out (by omega)).mono ?_
  rintro e w3 ⟨rfl, n3, rfl⟩
  rw [← HJ.out]
  have B3 := Lib.hid (show Blk (w2.drewN n3) w1.heap.size 61 #[.int .i64 pv, .string ⟨pa.toArray⟩, .string ⟨pb.toArray⟩] from B2.out)
  have F4 := Lib.hid (F3.out.drewN n3)
  clear B2 F3 HO
  go_wp2_with fail
  rw [He.out]
  refine (parse_any ([32, 32] ++ j ++ [9]) _ (by simp; omega)).mono ?_
  rintro e w4 ⟨hp, hf⟩
  have he := hp.is HP2.out
  subst he
  have B4 := B3.out.fr hf (fun h => h)
  have F5 := Lib.hid (F4.out.then_no hf)
  have b0 := B4.cell 0
  have b1 := B4.cell 1
  have b2 := B4.cell 2
  simp at b0 b1 b2
  have hlt := B4.lt
  have hne : w1.heap.size ≠ w4.heap.size := by omega
  have hq := fun W => eql_cmd W pv pv pa pa pb pb
  simp only [decide_true] at hq
  have hg : Try.prog.eqGuardType Try.prog.depth 61 = false := by kernel_rfl
  clear hp hf B4 F4 B3
  go_wp2_with (go_at_call 27; refine (works_any _).mono ?_; rintro e w' ⟨rfl, hf⟩; have Hf := Lib.hid hf; clear hf)
  go_ret
  exact ⟨rfl, (F5.out.alloc _).then_no Hf.out⟩
end Verb
end Go.Proofs.Ytiheeopbifkalaa
