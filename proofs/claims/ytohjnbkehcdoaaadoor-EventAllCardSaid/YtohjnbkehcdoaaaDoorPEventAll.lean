/- EventAll: whatever it is given, it returns true, and all that it was given reads as it did. -/
import Derived.Test.YtohjnbkehcdoaaaDoorLaid
import Derived.Test.YtohjnbkehcdoaaaDoorCards
import Derived.Test.YtohjnbkehcdoaaaDoorTie
import Derived.SevenTiedAt
import Derived.Test.YtohjnbkehcdoaaaDoorLaw
import Derived.Test.YtohjnbkehcdoaaaDoorEvS
import Derived.ProofKit
import Derived.OpenShut
import Derived.JoinedCond
namespace Go.Proofs.YtohjnbkehcdoaaaDoor.eventAll
open Go.ChangeShapes Go.WideShapes Go.ChangeAt Go.RowKit
set_option linter.unusedVariables false
theorem own : ownKnob Tryd.prog.godebug = none := by kernel_rfl
theorem laid : laidOutB Tryd.prog = true := by kernel_rfl
theorem opens0 : Opn Tryd.prog 9 RStr := (opn_str Tryd.underlying9)
theorem opens1 : Opn Tryd.prog 33 (RSl 5 (RTwo 1 (RInt .i64) (RTwo 1 (RInt .i64) (RTwo 1 (RInt .i64) (RTwo 1 RBool RStr))))) := (opn_sl (by decide) Tryd.underlying33 (by kernel_rfl) (opn_struct (tot := 5) Tryd.underlying23 (by kernel_rfl) (opnF_cons (off := 0) (tot := 5) (n := 1) rfl (by kernel_rfl) (by decide) (opn_int Tryd.underlying3) (opnF_cons (off := 1) (tot := 5) (n := 1) rfl (by kernel_rfl) (by decide) (opn_int Tryd.underlying3) (opnF_cons (off := 2) (tot := 5) (n := 1) rfl (by kernel_rfl) (by decide) (opn_int Tryd.underlying3) (opnF_cons (off := 3) (tot := 5) (n := 1) rfl (by kernel_rfl) (by decide) (opn_bool Tryd.underlying4) (opnF_last (off := 4) (tot := 5) (n := 1) rfl (by kernel_rfl) (by decide) (opn_str Tryd.underlying9))))))))
set_option maxRecDepth 100000 in
theorem contract (H : Type) (enc : TypeId × Value → H) (W : World) (base : Nat) (args : Array Value) (ds gs : List (DataW H)) (before : List MemPlace)
    (hval : ∀ (j : Nat) t v, Tryd.f5.params[j]? = some t → args[j]? = some v → Value.okWide Tryd.prog W .any base t v)
    (hW : DataW.Whole enc Tryd.prog Tryd.f5.params.toList Rows.eventAllSpec.vars false W args.toList ds gs before) (hL : laidMetH Tryd.prog Laid.vars W) :
    Calls Tryd.prog 5 args W fun e W' => ∃ v, e = .returned v ∧ Rows.eventAllSpec.post enc Tryd.prog Tryd.f5 false true false false W args v W' := by
  have hW' := hW
  obtain ⟨p, q, hA0, hV, rfl, hfz, hnd⟩ := hW
  have hA : DataW.TrodAll enc Tryd.prog W 0 (fun _ => true) true Tryd.f5.params.toList args.toList ds p := hA0
  have hlt : ∀ x ∈ p ++ q, x.block < W.heap.size := fun x hx => hW'.lt x hx
  rw [Tryd.params5] at hA hval
  obtain ⟨v0, vs0, d0, ds0, p0, q0, hargs, rfl, rfl, h0, r0⟩ := trodAll_cons hA
  obtain ⟨v1, vs1, d1, ds1, p1, q1, rfl, rfl, rfl, h1, r1⟩ := trodAll_cons r0
  obtain ⟨rfl, rfl, rfl⟩ := trodAll_nil r1
  obtain rfl : args = #[v0, v1] := by cases args; simp_all
  obtain ⟨rfl, rfl⟩ := trodVars_none hV
  obtain ⟨x0, g0⟩ := arg_one (one_str Tryd.underlying9) opens0 (hval 0 9 _ rfl rfl) h0 (fun x hx => hlt x (by simp [hx]))
  obtain ⟨x1, g1⟩ := arg_one (one_sl Tryd.underlying33) opens1 (hval 1 33 _ rfl rfl) h1 (fun x hx => hlt x (by simp [hx]))
  refine (Ev.walk_EventAll W (Laid.handle_of_laid hL) _ x0 g0 _ x1 g1).mono fun e W' ⟨he, hb⟩ => ⟨_, he, law_post hW' rfl rfl laid (by kernel_rfl) rfl Tryd.underlying4 hb⟩
set_option maxRecDepth 100000 in
theorem lifted (os : Os) (started : os.Started) (H : Type) (enc : TypeId × Value → H) :
    ReturnsInHanded {} Tryd.checked os 5 .any (fun w args => (Rows.eventAllSpec.pre enc Tryd.prog Tryd.f5 [] false w args ∧ laidMetH Tryd.prog Laid.vars w) ∧ sizedMet enc Tryd.prog Tryd.f5 (OpenSpec.ofChange Rows.eventAllSpec) false w args)
      (Rows.eventAllSpec.post enc Tryd.prog Tryd.f5 false true false false) := by
  refine returnsInHanded_of_change_and (C := Tryd.checked) (X := fun w _ => laidMetH Tryd.prog Laid.vars w) (fun _ _ _ hh h => h.of_heap hh) own started (by kernel_rfl) Tryd.func5
    (ChangeSpec.witness_at (enc := enc) (C := Tryd.checked) (os := os) (X := fun w _ => laidMetH Tryd.prog Laid.vars w) false (Laid.laidWorld os) #[.string ByteArray.empty, .slice none 0 0] 8 rfl (by kernel_rfl) (by kernel_rfl) (by kernel_rfl) (by kernel_rfl) (by kernel_rfl) (Laid.laidWorld_met os _)) ?_
  intro W base args ds gs before hval0 hW _ _ hL _
  exact contract H enc W base args ds gs before hval0 hW hL
theorem over : Rows.EventAllSaid :=
  OpenClaim.holds_of_wide 5 Tryd.f5 rfl rfl rfl rfl rfl rfl rfl ⟨rfl, rfl, rfl, rfl, rfl⟩ rfl rfl rfl rfl rfl (by kernel_rfl) Tryd.func5 (by kernel_rfl)
    (of_decide_eq_true (by kernel_rfl)) (by unfold Func.isWrapper; first | (rw [if_pos (by decide +kernel)]; kernel_rfl) | (rw [if_neg (by decide +kernel)]; exact ⟨rfl, rfl⟩))
    (fun os started H enc _ => lifted os started H enc)
theorem proved : Rows.EventAllCardSaid :=
  Claim7.holds_tied_plain_at .later [] [.handle] true (true, "4cba1133a142c1af118696c5897542a639d2995c32ed498c7b04cd771ccbb305") true
    over (fun _ h => by cases h) (by kernel_rfl) (fun _ h => by cases h) eventAll_row_tie rfl ⟨rfl, rfl⟩ (by kernel_rfl) rfl
    (fun f fn hf hfn => by
      obtain rfl : f = 5 := Option.some.inj ((show Tryd.prog.funcNamed Tryd.f5.name = some 5 by kernel_rfl).symm.trans hf) |>.symm
      obtain rfl : fn = Tryd.f5 := (Option.some.inj (Tryd.func5.symm.trans hfn)).symm
      exact ⟨by kernel_rfl, fun j t ht => by
        rw [Tryd.params5] at ht
        rcases j with _ | _ | j
        · obtain rfl : t = 9 := by simpa using ht.symm
          exact (show Tryd.prog.wantsStandIn 9 = false by kernel_rfl)
        · obtain rfl : t = 33 := by simpa using ht.symm
          exact (show Tryd.prog.wantsStandIn 33 = false by kernel_rfl)
        · simp at ht⟩)
    (by kernel_rfl)
#print axioms proved
end Go.Proofs.YtohjnbkehcdoaaaDoor.eventAll
