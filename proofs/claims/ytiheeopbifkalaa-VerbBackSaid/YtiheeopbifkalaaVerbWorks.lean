/- The examples of the statements of package verb. -/
import Derived.Test.YtiheeopbifkalaaVerbHelp
import Derived.Test.YtiheeopbifkalaaVerbPut
namespace Go.Proofs.Ytiheeopbifkalaa
open Go.RowKit
set_option linter.unusedVariables false
set_option linter.unusedSimpArgs false
namespace Verb
theorem eql_cmd (W : World) (a b : Int) (p q m n : Str) :
    (binOp .eql 61 (.agg #[.int .i64 a, .string ⟨p.toArray⟩, .string ⟨m.toArray⟩]) (.agg #[.int .i64 b, .string ⟨q.toArray⟩, .string ⟨n.toArray⟩])).run Try.prog W = .ok (.bool (decide ((a, p, m) = (b, q, n)))) W := by
  have h1 : Try.prog.underlying 61 = some (.struct (Try.prog.fieldsOf 61)) := by kernel_rfl
  have h2 : Try.prog.stoodInHeld 61 = false := by kernel_rfl
  have hu := Try.underlying61
  rw [run_eql_struct, run_equalIn_struct W _ _ _ _ h1 h2]
  simp [Program.fieldsOf, hu, Op.eqFields, go_sem]
  by_cases e1 : a = b <;> by_cases e2 : p = q <;> by_cases e3 : m = n <;> simp [e1, e2, e3]
theorem ParseIs.known {s : Str} {e : Ending} {r : C × Int} (h : ParseIs (parseR s) e) (hr : parseR s = r) : e = .returned (.tuple #[.agg #[.int .i64 r.1.1, .string ⟨r.1.2.1.toArray⟩, .string ⟨r.1.2.2.toArray⟩], .int .i64 r.2]) := by rw [hr] at h; exact h
set_option maxRecDepth 100000 in
set_option maxHeartbeats 4000000 in
theorem works_any (w : World) : Calls Try.prog 27 #[] w fun e w' => e = .returned (.bool true) ∧ Fr No w w' := by
  have p1 := Lib.hid (show parseR [32, 99, 97, 108, 108, 32, 32, 119, 101, 98, 49] = ((2, [119, 101, 98, 49], []), 0) by decide)
  have p2 := Lib.hid (show parseR [116, 101, 108, 108, 32, 119, 101, 98, 42, 32, 98, 97, 99, 107, 32, 32, 97, 116, 32, 110, 111, 111, 110] = ((9, [119, 101, 98, 42], [98, 97, 99, 107, 32, 97, 116, 32, 110, 111, 111, 110]), 0) by decide)
  have p3 := Lib.hid (show parseR [99, 97, 108, 108] = (zeroC, 1) by decide)
  have p4 := Lib.hid (show parseR [67, 97, 108, 108, 32, 119, 101, 98, 49] = (zeroC, 3) by decide)
  have p5 := Lib.hid (show parseR [32] = (zeroC, 7) by decide)
  have p6 := Lib.hid (show putR (9, [119, 101, 98, 42], [98, 97, 99, 107, 32, 97, 116, 32, 110, 111, 111, 110]) = ([116, 101, 108, 108, 32, 119, 101, 98, 42, 32, 98, 97, 99, 107, 32, 97, 116, 32, 110, 111, 111, 110], 0) by decide)
  have p7 := Lib.hid (show wordR 3 = [115, 112, 121] by decide)
  have p8 := Lib.hid (show wordR 0 = [] by decide)
  go_enter Try.func27, Try.ntmps27
  go_wp2_with fail
  refine (parse_any [32, 99, 97, 108, 108, 32, 32, 119, 101, 98, 49] _ (by decide)).mono ?_
  rintro e w1 ⟨hp, hf⟩
  have he := hp.known p1.out
  subst he
  have F1 := Lib.hid hf
  clear hp hf
  go_wp2_with fail
  refine (parse_any [116, 101, 108, 108, 32, 119, 101, 98, 42, 32, 98, 97, 99, 107, 32, 32, 97, 116, 32, 110, 111, 111, 110] _ (by decide)).mono ?_
  rintro e w2 ⟨hp, hf⟩
  have he := hp.known p2.out
  subst he
  have BA := (Blk.new w1 61 #[.int .i64 2, .string ⟨#[119, 101, 98, 49]⟩, .string ⟨#[]⟩]).fr hf (fun h => h)
  have F2 := Lib.hid ((F1.out.alloc (.cells #[.int .i64 2, .string ⟨#[119, 101, 98, 49]⟩, .string ⟨#[]⟩] 61)).then_no hf)
  have BA := Lib.hid (BA.alloc (.cells #[.int .i64 9, .string ⟨#[119, 101, 98, 42]⟩, .string ⟨#[98, 97, 99, 107, 32, 97, 116, 32, 110, 111, 111, 110]⟩] 61))
  have BB := Lib.hid (Blk.new w2 61 #[.int .i64 9, .string ⟨#[119, 101, 98, 42]⟩, .string ⟨#[98, 97, 99, 107, 32, 97, 116, 32, 110, 111, 111, 110]⟩])
  have F2 := Lib.hid (F2.out.alloc (.cells #[.int .i64 9, .string ⟨#[119, 101, 98, 42]⟩, .string ⟨#[98, 97, 99, 107, 32, 97, 116, 32, 110, 111, 111, 110]⟩] 61))
  clear hp hf F1
  go_wp2_with fail
  generalize w2.alloc (.cells #[.int .i64 9, .string ⟨#[119, 101, 98, 42]⟩, .string ⟨#[98, 97, 99, 107, 32, 97, 116, 32, 110, 111, 111, 110]⟩] 61) = W2 at BA BB F2 ⊢
  refine (parse_any [99, 97, 108, 108] _ (by decide)).mono ?_
  rintro e w3 ⟨hp, hf⟩
  have he := hp.known p3.out
  subst he
  have BA := Lib.hid (BA.out.fr hf (fun h => h))
  have BB := Lib.hid (BB.out.fr hf (fun h => h))
  have F3 := Lib.hid (F2.out.then_no hf)
  clear hp hf F2
  go_wp2_with fail
  have BA := Lib.hid (BA.out.alloc (.cells #[.int .i64 zeroC.1, .string ⟨zeroC.2.1.toArray⟩, .string ⟨zeroC.2.2.toArray⟩] 61))
  have BB := Lib.hid (BB.out.alloc (.cells #[.int .i64 zeroC.1, .string ⟨zeroC.2.1.toArray⟩, .string ⟨zeroC.2.2.toArray⟩] 61))
  have F3 := Lib.hid (F3.out.alloc (.cells #[.int .i64 zeroC.1, .string ⟨zeroC.2.1.toArray⟩, .string ⟨zeroC.2.2.toArray⟩] 61))
  generalize w3.alloc (.cells #[.int .i64 zeroC.1, .string ⟨zeroC.2.1.toArray⟩, .string ⟨zeroC.2.2.toArray⟩] 61) = W3 at BA BB F3 ⊢
  refine (parse_any [67, 97, 108, 108, 32, 119, 101, 98, 49] _ (by decide)).mono ?_
  rintro e w4 ⟨hp, hf⟩
  have he := hp.known p4.out
  subst he
  have BA := Lib.hid (BA.out.fr hf (fun h => h))
  have BB := Lib.hid (BB.out.fr hf (fun h => h))
  have F3 := Lib.hid (F3.out.then_no hf)
  clear hp hf
  go_wp2_with fail
  have BA := Lib.hid (BA.out.alloc (.cells #[.int .i64 zeroC.1, .string ⟨zeroC.2.1.toArray⟩, .string ⟨zeroC.2.2.toArray⟩] 61))
  have BB := Lib.hid (BB.out.alloc (.cells #[.int .i64 zeroC.1, .string ⟨zeroC.2.1.toArray⟩, .string ⟨zeroC.2.2.toArray⟩] 61))
  have F3 := Lib.hid (F3.out.alloc (.cells #[.int .i64 zeroC.1, .string ⟨zeroC.2.1.toArray⟩, .string ⟨zeroC.2.2.toArray⟩] 61))
  generalize w4.alloc (.cells #[.int .i64 zeroC.1, .string ⟨zeroC.2.1.toArray⟩, .string ⟨zeroC.2.2.toArray⟩] 61) = W4 at BA BB F3 ⊢
  refine (parse_any [32] _ (by decide)).mono ?_
  rintro e w5 ⟨hp, hf⟩
  have he := hp.known p5.out
  subst he
  have BA := Lib.hid (BA.out.fr hf (fun h => h))
  have BB := Lib.hid (BB.out.fr hf (fun h => h))
  have F3 := Lib.hid (F3.out.then_no hf)
  clear hp hf
  have b0 := ((BB.out.alloc (.cells #[.int .i64 zeroC.1, .string ⟨zeroC.2.1.toArray⟩, .string ⟨zeroC.2.2.toArray⟩] 61))).cell 0
  have b1 := ((BB.out.alloc (.cells #[.int .i64 zeroC.1, .string ⟨zeroC.2.1.toArray⟩, .string ⟨zeroC.2.2.toArray⟩] 61))).cell 1
  have b2 := ((BB.out.alloc (.cells #[.int .i64 zeroC.1, .string ⟨zeroC.2.1.toArray⟩, .string ⟨zeroC.2.2.toArray⟩] 61))).cell 2
  simp only [List.getElem?_toArray, List.getElem?_cons_zero, List.getElem?_cons_succ] at b0 b1 b2
  go_wp2_with fail
  clear b0 b1 b2
  have BA := Lib.hid (BA.out.alloc (.cells #[.int .i64 zeroC.1, .string ⟨zeroC.2.1.toArray⟩, .string ⟨zeroC.2.2.toArray⟩] 61))
  have BB := Lib.hid (BB.out.alloc (.cells #[.int .i64 zeroC.1, .string ⟨zeroC.2.1.toArray⟩, .string ⟨zeroC.2.2.toArray⟩] 61))
  have F3 := Lib.hid (F3.out.alloc (.cells #[.int .i64 zeroC.1, .string ⟨zeroC.2.1.toArray⟩, .string ⟨zeroC.2.2.toArray⟩] 61))
  generalize w5.alloc (.cells #[.int .i64 zeroC.1, .string ⟨zeroC.2.1.toArray⟩, .string ⟨zeroC.2.2.toArray⟩] 61) = W5 at BA BB F3 ⊢
  refine (put_any (9, [119, 101, 98, 42], [98, 97, 99, 107, 32, 97, 116, 32, 110, 111, 111, 110]) _ (by decide) (by decide)).mono ?_
  rintro e w6 ⟨hp, hf⟩
  have he : e = .returned (.tuple #[.string ⟨#[116, 101, 108, 108, 32, 119, 101, 98, 42, 32, 98, 97, 99, 107, 32, 97, 116, 32, 110, 111, 111, 110]⟩, .int .i64 0]) := by
    unfold PutIs at hp
    rw [p6.out] at hp
    exact hp
  subst he
  have BA := Lib.hid (BA.out.fr hf (fun h => h))
  have BB := Lib.hid (BB.out.fr hf (fun h => h))
  have F3 := Lib.hid (F3.out.then_no hf)
  clear hp hf
  go_wp2_with fail
  refine (help_any _).mono ?_
  rintro e w7 ⟨v, rfl, ho, hst⟩
  have hf : Fr No w6 w7 := hst.1
  have F7 := Lib.hid (F3.out.then_no hf)
  have a0 := (BA.out.fr hf (fun h => h)).cell 0
  have a1 := (BA.out.fr hf (fun h => h)).cell 1
  have a2 := (BA.out.fr hf (fun h => h)).cell 2
  have b0 := (BB.out.fr hf (fun h => h)).cell 0
  have b1 := (BB.out.fr hf (fun h => h)).cell 1
  have b2 := (BB.out.fr hf (fun h => h)).cell 2
  simp only [List.getElem?_toArray, List.getElem?_cons_zero, List.getElem?_cons_succ] at a0 a1 a2 b0 b1 b2
  have hl16 : helpR.length = 16 := by decide
  rw [hl16] at ho
  obtain ⟨A, c, hu⟩ := own_form ho
  subst hu
  obtain ⟨q, rfl⟩ : ∃ g, A = some ⟨g, 0, none⟩ := by
    rcases ho.2 with ⟨_, h0⟩ | ⟨g, cap', cur, h0, _⟩
    · cases h0
    · injection h0 with h0 _; exact ⟨g, h0⟩
  have l0 := ho.cells (g := q) rfl 0 (.string ⟨#[108, 111, 103, 105, 110, 32, 78, 65, 77, 69, 32, 80, 65, 83, 83, 87, 79, 82, 68]⟩) (by rfl)
  have l15 := ho.cells (g := q) rfl 15 (.string ⟨#[104, 101, 108, 112]⟩) (by rfl)
  have l0 : w7.cell? ⟨q, 0, none⟩ = some (.string ⟨#[108, 111, 103, 105, 110, 32, 78, 65, 77, 69, 32, 80, 65, 83, 83, 87, 79, 82, 68]⟩) := l0
  have l15 : w7.cell? ⟨q, 15, none⟩ = some (.string ⟨#[104, 101, 108, 112]⟩) := l15
  have q1 := fun W => eql_cmd W 2 2 [119, 101, 98, 49] [119, 101, 98, 49] [] []
  have q2 := fun W => eql_cmd W 9 9 [119, 101, 98, 42] [119, 101, 98, 42] [98, 97, 99, 107, 32, 97, 116, 32, 110, 111, 111, 110] [98, 97, 99, 107, 32, 97, 116, 32, 110, 111, 111, 110]
  simp only [decide_true] at q1 q2
  have hg : Try.prog.eqGuardType Try.prog.depth 61 = false := by kernel_rfl
  clear ho hst hf BA BB F3 hl16
  go_wp2_with (go_at_call 31; first
    | ((with_reducible refine (word_any 3 _).mono ?_); rintro e w8 ⟨rfl, hf8⟩; rw [p7.out]; have F8 := Lib.hid hf8; clear hf8)
    | ((with_reducible refine (word_any 0 _).mono ?_); rintro e w9 ⟨rfl, hf9⟩; rw [p8.out]; have F9 := Lib.hid hf9; clear hf9))
  go_ret
  exact ⟨rfl, (F7.out.then_no F8.out).then_no F9.out⟩
end Verb
end Go.Proofs.Ytiheeopbifkalaa
