/- LineRetries: whatever it is given, it returns true, and all that it was given reads as it did. -/
import Derived.Test.YtnfkkonmhinlcaaLaw
import Derived.Test.YtnfkkonmhinlcaaLnB
import Derived.ProofKit
import Derived.OpenShut
import Derived.JoinedCond
namespace Go.Proofs.Ytnfkkonmhinlcaa.lineRetries
open Go.ChangeShapes Go.WideShapes Go.ChangeAt Go.RowKit
set_option linter.unusedVariables false
theorem own : ownKnob Try.prog.godebug = none := by kernel_rfl
theorem laid : laidOutB Try.prog = true := by kernel_rfl
theorem opens0 : Opn Try.prog 29 (RTwo 1 RStr (RTwo 1 (RInt .i64) (RTwo 1 (RInt .i64) (RTwo 1 (RInt .i64) (RTwo 1 (RInt .i64) (RTwo 1 (RInt .i64) (RTwo 1 (RInt .i64) (RTwo 1 (RInt .i64) (RTwo 1 (RInt .i64) RStr))))))))) := (opn_struct (tot := 10) Try.underlying29 (by kernel_rfl) (opnF_cons (off := 0) (tot := 10) (n := 1) rfl (by kernel_rfl) (by decide) (opn_str Try.underlying9) (opnF_cons (off := 1) (tot := 10) (n := 1) rfl (by kernel_rfl) (by decide) (opn_int Try.underlying3) (opnF_cons (off := 2) (tot := 10) (n := 1) rfl (by kernel_rfl) (by decide) (opn_int Try.underlying3) (opnF_cons (off := 3) (tot := 10) (n := 1) rfl (by kernel_rfl) (by decide) (opn_int Try.underlying3) (opnF_cons (off := 4) (tot := 10) (n := 1) rfl (by kernel_rfl) (by decide) (opn_int Try.underlying3) (opnF_cons (off := 5) (tot := 10) (n := 1) rfl (by kernel_rfl) (by decide) (opn_int Try.underlying3) (opnF_cons (off := 6) (tot := 10) (n := 1) rfl (by kernel_rfl) (by decide) (opn_int Try.underlying3) (opnF_cons (off := 7) (tot := 10) (n := 1) rfl (by kernel_rfl) (by decide) (opn_int Try.underlying3) (opnF_cons (off := 8) (tot := 10) (n := 1) rfl (by kernel_rfl) (by decide) (opn_int Try.underlying3) (opnF_last (off := 9) (tot := 10) (n := 1) rfl (by kernel_rfl) (by decide) (opn_str Try.underlying9))))))))))))
theorem opens1 : Opn Try.prog 5 (RInt .u8) := (opn_int Try.underlying5)
theorem opens2 : Opn Try.prog 3 (RInt .i64) := (opn_int Try.underlying3)
theorem opens3 : Opn Try.prog 61 (RInt .u32) := (opn_int Try.underlying61)
set_option maxRecDepth 100000 in
theorem contract (H : Type) (enc : TypeId × Value → H) (W : World) (base : Nat) (args : Array Value) (ds gs : List (DataW H)) (before : List MemPlace)
    (hval : ∀ (j : Nat) t v, Try.f5.params[j]? = some t → args[j]? = some v → Value.okWide Try.prog W .any base t v)
    (hW : DataW.Whole enc Try.prog Try.f5.params.toList Rows.lineRetriesSpec.vars false W args.toList ds gs before) :
    Calls Try.prog 5 args W fun e W' => ∃ v, e = .returned v ∧ Rows.lineRetriesSpec.post enc Try.prog Try.f5 false true false false W args v W' := by
  have hW' := hW
  obtain ⟨p, q, hA0, hV, rfl, hfz, hnd⟩ := hW
  have hA : DataW.TrodAll enc Try.prog W 0 (fun _ => true) true Try.f5.params.toList args.toList ds p := hA0
  have hlt : ∀ x ∈ p ++ q, x.block < W.heap.size := fun x hx => hW'.lt x hx
  rw [Try.params5] at hA hval
  obtain ⟨v0, vs0, d0, ds0, p0, q0, hargs, rfl, rfl, h0, r0⟩ := trodAll_cons hA
  obtain ⟨v1, vs1, d1, ds1, p1, q1, rfl, rfl, rfl, h1, r1⟩ := trodAll_cons r0
  obtain ⟨v2, vs2, d2, ds2, p2, q2, rfl, rfl, rfl, h2, r2⟩ := trodAll_cons r1
  obtain ⟨v3, vs3, d3, ds3, p3, q3, rfl, rfl, rfl, h3, r3⟩ := trodAll_cons r2
  obtain ⟨rfl, rfl, rfl⟩ := trodAll_nil r3
  obtain rfl : args = #[v0, v1, v2, v3] := by cases args; simp_all
  obtain ⟨rfl, rfl⟩ := trodVars_none hV
  obtain ⟨c0, x0, rfl, g0⟩ := arg_agg Try.underlying29 opens0 (hval 0 29 _ rfl rfl) h0 (fun x hx => hlt x (by simp [hx]))
  obtain ⟨x1, g1⟩ := arg_one (one_int Try.underlying5) opens1 (hval 1 5 _ rfl rfl) h1 (fun x hx => hlt x (by simp [hx]))
  obtain ⟨x2, g2⟩ := arg_one (one_int Try.underlying3) opens2 (hval 2 3 _ rfl rfl) h2 (fun x hx => hlt x (by simp [hx]))
  obtain ⟨x3, g3⟩ := arg_one (one_int Try.underlying61) opens3 (hval 3 61 _ rfl rfl) h3 (fun x hx => hlt x (by simp [hx]))
  refine (Ln.walk_LineRetries W c0 x0 g0 _ x1 g1 _ x2 g2 _ x3 g3).mono fun e W' ⟨he, hb⟩ => ⟨_, he, law_post hW' rfl rfl laid (by kernel_rfl) rfl Try.underlying4 hb⟩
set_option maxRecDepth 100000 in
theorem lifted (os : Os) (started : os.Started) (H : Type) (enc : TypeId × Value → H) :
    ReturnsInHanded {} Try.checked os 5 .any (Rows.lineRetriesSpec.pre6 enc Try.prog Try.f5 Rows.lineRetriesRow.domain false) (Rows.lineRetriesSpec.post enc Try.prog Try.f5 false true false false) := by
  refine returnsInHanded_of_change (C := Try.checked) own started (by kernel_rfl) Try.func5
    (ChangeSpec.witness6 (enc := enc) (C := Try.checked) false ⟨#[], #[.agg #[.string ByteArray.empty, .int .i64 0, .int .i64 0, .int .i64 0, .int .i64 0, .int .i64 0, .int .i64 0, .int .i64 0, .int .i64 0, .string ByteArray.empty], .int .u8 0, .int .i64 0, .int .u32 0], []⟩ 8 (by kernel_rfl) (by kernel_rfl) (by kernel_rfl) (by kernel_rfl)) ?_
  intro W base args ds gs before hval0 hW hcnd _
  exact contract H enc W base args ds gs before hval0 hW
theorem over : Rows.lineRetriesRow.holds Try.pinned (OpenSpec.ofChange Rows.lineRetriesSpec) :=
  OpenClaim.holds_of_wide 5 Try.f5 rfl rfl rfl rfl rfl rfl rfl ⟨rfl, rfl, rfl, rfl, rfl⟩ rfl rfl rfl rfl rfl (by kernel_rfl) Try.func5 (by kernel_rfl)
    (of_decide_eq_true (by kernel_rfl)) (by unfold Func.isWrapper; first | (rw [if_pos (by decide +kernel)]; kernel_rfl) | (rw [if_neg (by decide +kernel)]; exact ⟨rfl, rfl⟩))
    (fun os started H enc _ => lifted os started H enc)
theorem proved : Rows.LineRetriesSaid := over
#print axioms proved
end Go.Proofs.Ytnfkkonmhinlcaa.lineRetries
