/- Package verb: all verbs. -/
import Derived.Test.YtiheeopbifkalaaWordJoin
import Derived.Deep.WholeRow
namespace Go.Proofs.Ytiheeopbifkalaa
open Go.RowKit
set_option linter.unusedVariables false
set_option linter.unusedSimpArgs false
namespace Verb
abbrev V := Int × Str × Int × Str
def verbs : List V := [
  (1, [108, 111, 103, 105, 110], 2, [78, 65, 77, 69, 32, 80, 65, 83, 83, 87, 79, 82, 68]),
  (2, [99, 97, 108, 108], 1, [67, 79, 78, 83, 79, 76, 69]),
  (3, [115, 112, 121], 1, [67, 79, 78, 83, 79, 76, 69]),
  (4, [102, 111, 114, 99, 101], 1, [67, 79, 78, 83, 79, 76, 69]),
  (5, [108, 105, 115, 116], 0, []),
  (6, [119, 104, 111], 0, []),
  (7, [105, 110, 102, 111], 1, [67, 79, 78, 83, 79, 76, 69]),
  (8, [103, 114, 111, 117, 112], 1, [78, 65, 77, 69]),
  (9, [116, 101, 108, 108], 3, [80, 65, 84, 84, 69, 82, 78, 32, 84, 69, 88, 84]),
  (10, [100, 111, 119, 110], 1, [67, 79, 78, 83, 79, 76, 69]),
  (11, [117, 112], 1, [67, 79, 78, 83, 79, 76, 69]),
  (12, [114, 101, 111, 112, 101, 110], 1, [67, 79, 78, 83, 79, 76, 69]),
  (13, [99, 111, 110, 102], 0, []),
  (14, [113, 117, 105, 116], 0, []),
  (15, [104, 97, 108, 116], 0, []),
  (16, [104, 101, 108, 112], 0, [])]
def encV (x : V) : Array Value := #[.int .i64 x.1, .string ⟨x.2.1.toArray⟩, .int .i64 x.2.2.1, .string ⟨x.2.2.2.toArray⟩]
section
variable {P : Program} {W W' : World} {ops : Array Oper} {rest : List Oper} {o : Oper} {a : Act} {Q : Exit → Act → World → Prop}
theorem wpList_value {v : Value} (hgd : o.guard = none) (hr : (execOp a.eval o).run P W = .ok (.value v) W') (h : wpList P ops Q rest (a.put o.dst v) W') : wpList P ops Q (o :: rest) a W :=
  wpList_plain hgd fun K hK => by unfold Oper.wp; rw [hr]; exact hK _ _ h
theorem wpList_skip (hgd : o.guard = none) (hr : (execOp a.eval o).run P W = .ok .skip W') (h : wpList P ops Q rest (a.put o.dst undef) W') : wpList P ops Q (o :: rest) a W :=
  wpList_plain hgd fun K hK => by unfold Oper.wp; rw [hr]; exact hK _ _ h
theorem run_store_op {ρ : Operand → Value} {t : TypeId} {x y : Operand} {p q : Value} (ho : o.op = .store t x y) (hx : ρ x = p) (hy : ρ y = q) (h : (Instr.storeAt t p q).run P W = .ok () W') : (execOp ρ o).run P W = .ok .skip W' := by
  unfold execOp
  simp only [ho, hx, hy, Sem.run_bind, h, Sem.run_pure, Result.andThen]
theorem results_cell {fn : Func} {t : Tmp} {ty : TypeId} (h : fn.results = #[.cell t ty]) (tmps : Array Value) {p : Addr} {v : Value} (ht : tmps.getD t undef = .pointer (some p)) (hl : (loadVar ty p).run P W = .ok v W) : (results fn tmps).run P W = .ok v W := by
  rw [Array.getD_eq_getD_getElem?] at ht
  have ha : ∀ W : World, (asAddr (.pointer (some p))).run P W = .ok p W := fun _ => by simp [asAddr, go_sem]
  simp [results, h, ht, ha, hl, Sem.run_bind, Result.andThen]
end
def zeroV : Array Value := ((List.replicate 16 [.int .i64 0, .string ByteArray.empty, .int .i64 0, .string ByteArray.empty]).flatten).toArray
def cellsV : Array Value := (verbs.flatMap (fun x => (encV x).toList)).toArray
set_option maxRecDepth 100000 in
set_option maxHeartbeats 1000000 in
theorem rows_any (w : World) : Calls Try.prog 75 #[] w fun e w' => e = .returned (.agg cellsV) ∧ Fr No w w' := by
  go_enter Try.func75, Try.ntmps75
  refine wp_seq ?_
  refine wp_region_lit ?_
  refine wpList_value (v := .pointer (some ⟨w.heap.size, 0, none⟩)) (W' := w.alloc (.cells zeroV 115)) rfl ?_ ?_
  · kernel_rfl
  refine wpList_nil ?_
  refine wp_seq ?_
  refine wp_region_lit ?_
  refine wpList_value (v := .agg (encV (verbs.getD 0 default))) (W' := w.alloc (.cells zeroV 115)) rfl (by kernel_rfl) ?_
  refine wpList_value (v := .agg (encV (verbs.getD 1 default))) (W' := w.alloc (.cells zeroV 115)) rfl (by kernel_rfl) ?_
  refine wpList_value (v := .agg (encV (verbs.getD 2 default))) (W' := w.alloc (.cells zeroV 115)) rfl (by kernel_rfl) ?_
  refine wpList_value (v := .agg (encV (verbs.getD 3 default))) (W' := w.alloc (.cells zeroV 115)) rfl (by kernel_rfl) ?_
  refine wpList_value (v := .agg (encV (verbs.getD 4 default))) (W' := w.alloc (.cells zeroV 115)) rfl (by kernel_rfl) ?_
  refine wpList_value (v := .agg (encV (verbs.getD 5 default))) (W' := w.alloc (.cells zeroV 115)) rfl (by kernel_rfl) ?_
  refine wpList_value (v := .agg (encV (verbs.getD 6 default))) (W' := w.alloc (.cells zeroV 115)) rfl (by kernel_rfl) ?_
  refine wpList_value (v := .agg (encV (verbs.getD 7 default))) (W' := w.alloc (.cells zeroV 115)) rfl (by kernel_rfl) ?_
  refine wpList_value (v := .agg (encV (verbs.getD 8 default))) (W' := w.alloc (.cells zeroV 115)) rfl (by kernel_rfl) ?_
  refine wpList_value (v := .agg (encV (verbs.getD 9 default))) (W' := w.alloc (.cells zeroV 115)) rfl (by kernel_rfl) ?_
  refine wpList_value (v := .agg (encV (verbs.getD 10 default))) (W' := w.alloc (.cells zeroV 115)) rfl (by kernel_rfl) ?_
  refine wpList_value (v := .agg (encV (verbs.getD 11 default))) (W' := w.alloc (.cells zeroV 115)) rfl (by kernel_rfl) ?_
  refine wpList_value (v := .agg (encV (verbs.getD 12 default))) (W' := w.alloc (.cells zeroV 115)) rfl (by kernel_rfl) ?_
  refine wpList_value (v := .agg (encV (verbs.getD 13 default))) (W' := w.alloc (.cells zeroV 115)) rfl (by kernel_rfl) ?_
  refine wpList_value (v := .agg (encV (verbs.getD 14 default))) (W' := w.alloc (.cells zeroV 115)) rfl (by kernel_rfl) ?_
  refine wpList_value (v := .agg (encV (verbs.getD 15 default))) (W' := w.alloc (.cells zeroV 115)) rfl (by kernel_rfl) ?_
  refine wpList_value (v := .agg cellsV) (W' := w.alloc (.cells zeroV 115)) rfl (by kernel_rfl) ?_
  refine wpList_skip (W' := w.alloc (.cells cellsV 115)) rfl ?_ ?_
  · have hst := run_storeAt_new (P := Try.prog) w 115 zeroV cellsV (by kernel_rfl) (by kernel_rfl) (by kernel_rfl)
    exact run_store_op (x := .tmp 0) (y := .tmp 17) rfl (by kernel_rfl) (by kernel_rfl) hst
  refine wpList_nil ?_
  refine wp_ret ?_
  refine bodyPost_ret (v := .agg cellsV) ?_ rfl ⟨rfl, (Fr.refl _ _).alloc _⟩
  exact results_cell (t := 0) (ty := 115) (p := ⟨w.heap.size, 0, none⟩) rfl _ (by kernel_rfl) (run_loadVar_new w 115 cellsV 16 99 (by kernel_rfl) (by kernel_rfl))
set_option maxRecDepth 100000 in
set_option maxHeartbeats 1000000 in
theorem word1_any (w : World) (B : Nat) (v : Int) (x : V) (hB : w.cell? ⟨B, 0, none⟩ = some (.int .i64 v)) (hlt : B < w.heap.size) : Calls Try.prog 63 #[.agg (encV x), .pointer (some ⟨B, 0, none⟩)] w fun e w' => e = .returned (.bool (x.1 == v)) ∧ Fr No w w' := by
  unfold encV
  have hne : B ≠ w.heap.size := by omega
  go_enter Try.func63, Try.ntmps63
  go_wp2
  go_ret
  exact ⟨rfl, (Fr.refl _ _).alloc _⟩
end Verb
end Go.Proofs.Ytiheeopbifkalaa
