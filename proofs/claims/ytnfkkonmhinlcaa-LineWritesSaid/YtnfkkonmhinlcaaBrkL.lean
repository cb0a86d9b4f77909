/- Package brk: rows of ops: how many ticks, which bytes, the same. Printed by gen_brkl.py. -/
import Derived.Test.YtnfkkonmhinlcaaBrkW
import Derived.Test.YtnfkkonmhinlcaaSls
import Derived.Test.YtnfkkonmhinlcaaBrow
namespace Go.Proofs.Ytnfkkonmhinlcaa
open Go.RowKit
set_option linter.unusedVariables false
set_option linter.unusedSimpArgs false
namespace Brk
open Digit Sls
def encO (x : Op) : List Value := [.int .i64 x.1, .string ⟨x.2.1.toArray⟩, .int .i64 x.2.2]
/-- An op that can be read. -/
def OpOk (x : Op) : Prop := (Lit.int .i64 x.1).wf = true ∧ x.2.1.length ≤ 1000 ∧ (Lit.int .i64 x.2.2).wf = true
def ROp : Rd Op := fun _ _ cs x => cs = encO x ∧ OpOk x
theorem ROp.stable : Rd.Stable ROp := ⟨fun h _ _ => h⟩
theorem encO_one (l : List Op) : ∀ u ∈ l.flatMap encO, u.oneCell' = true := by
  intro u hu
  obtain ⟨x, -, h⟩ := List.mem_flatMap.1 hu
  simp only [encO, List.mem_cons, List.not_mem_nil, or_false] at h
  rcases h with rfl | rfl | rfl <;> rfl
theorem wf64 {n : Int} (h : (Lit.int .i64 n).wf = true) : -9223372036854775808 ≤ n ∧ n ≤ 9223372036854775807 := by
  have e1 : IntKind.i64.min = -9223372036854775808 := rfl
  have e2 : IntKind.i64.max = 9223372036854775807 := rfl
  simpa [Lit.wf, e1, e2] using h
theorem wf_of {n : Int} (h1 : -9223372036854775808 ≤ n) (h2 : n ≤ 9223372036854775807) : (Lit.int .i64 n).wf = true := by
  have e1 : IntKind.i64.min = -9223372036854775808 := rfl
  have e2 : IntKind.i64.max = 9223372036854775807 := rfl
  simpa [Lit.wf, e1, e2] using And.intro h1 h2
theorem fine_nn {x : Op} (h : Fine x) : 0 ≤ x.2.2 := by cases h <;> simp
theorem op_at {w wr : World} {S : Nat → Prop} {A : Option Addr} {m c i : Nat} {l : List Op} (h : RSl 3 ROp w S [.slice A m c] l) (hS : ∀ k, S k → k < w.heap.size) (hf : Fr No w wr) (hi : i < l.length) :
    ∃ ad, A = some ad ∧ ad.block < wr.heap.size ∧ wr.cell? (ad.add (i * 3)) = some (.int .i64 l[i].1) ∧ wr.cell? ⟨(ad.add (i * 3)).block, (ad.add (i * 3)).off + 1, none⟩ = some (.string ⟨l[i].2.1.toArray⟩) ∧ wr.cell? ⟨(ad.add (i * 3)).block, (ad.add (i * 3)).off + 2, none⟩ = some (.int .i64 l[i].2.2) ∧ OpOk l[i] := by
  obtain ⟨ad, ecs, g1, g2, g3, g4, rfl, g6⟩ := sl_at h hi
  have hk : ∀ j, wr.cell? ((ad.add (i * 3)).add j) = w.cell? ((ad.add (i * 3)).add j) := fun j => hf.cell (by rw [block_add, block_add]; exact hS _ g2) (fun h => h)
  have e0 := (hk 0).trans (g4 0 (by omega))
  have e1 := (hk 1).trans (g4 1 (by omega))
  have e2 := (hk 2).trans (g4 2 (by omega))
  rw [add_zero] at e0
  exact ⟨ad, g1, Nat.lt_of_lt_of_le (hS _ g2) hf.size, e0, e1, e2, g6⟩
theorem sl_fr {w w2 : World} {S : Nat → Prop} {v : Value} {l : List Op} (h : RSl 3 ROp w S [v] l) (hS : ∀ k, S k → k < w.heap.size) (hf : Fr No w w2) : RSl 3 ROp w2 S [v] l := (RSl.stable ROp.stable).go h (Kept.of_no hf hS) (fun _ h => h)
theorem sumN_take {l : List Op} {k : Nat} (h : k < l.length) : sumN (l.take (k + 1)) = sumN (l.take k) + l[k].2.2 := by
  rw [List.take_succ_eq_append_getElem h, sumN_snoc]
theorem allS_take {l : List Op} {k : Nat} (h : k < l.length) : allS (l.take (k + 1)) = allS (l.take k) ++ l[k].2.1 := by
  rw [List.take_succ_eq_append_getElem h, allS_snoc]
theorem sumN_nn {l : List Op} (h : ∀ x ∈ l, Fine x) : 0 ≤ sumN l := by
  induction l with
  | nil => simp [sumN]
  | cons x l ih =>
    have h1 := ih fun y hy => h y (List.mem_cons_of_mem _ hy)
    have h2 : 0 ≤ x.2.2 := by cases h x (by simp) <;> simp
    have : sumN (x :: l) = x.2.2 + sumN l := by simp [sumN]
    omega
theorem sumN_split (l : List Op) (k : Nat) : sumN l = sumN (l.take k) + sumN (l.drop k) := by
  conv => lhs; rw [← List.take_append_drop k l]
  simp only [sumN, List.map_append, List.sum_append]
theorem allS_split (l : List Op) (k : Nat) : allS l = allS (l.take k) ++ allS (l.drop k) := by
  conv => lhs; rw [← List.take_append_drop k l]
  simp only [allS, List.flatMap_append]
theorem allS_none {l : List Op} {k : Nat} (h : l.length ≤ k) : allS (l.take k) = allS l := by rw [List.take_of_length_le h]
set_option maxRecDepth 100000 in
set_option maxHeartbeats 2000000 in
theorem rbytes_any (v : Value) (l : List Op) (hsum : (allS l).length ≤ 1000000) (w : World) (S : Nat → Prop) (hS : ∀ k, S k → k < w.heap.size) (h : RSl 3 ROp w S [v] l) :
    Calls Try.prog 15 #[v] w fun e w' => e = .returned (.string ⟨(allS l).toArray⟩) ∧ Fr No w w' := by
  obtain ⟨A, c, rfl, hc1, hc2⟩ := h.slice
  unfold maxLen at hc2
  have H := Lib.hid h
  have HS := Lib.hid hS
  clear h hS
  have HSU := Lib.hid hsum
  clear hsum
  go_enter Try.func15, Try.ntmps15
  go_wp2_with fail
  go_loopw [3, 4] (fun bv iv wr => ∃ (k : Nat) (t : Str), iv = .int .i64 k ∧ bv = .string ⟨t.toArray⟩ ∧ k ≤ l.length ∧ t.length ≤ 1000000 ∧ Hid (t = allS (l.take k)) ∧ Hid (Fr No w wr)) (fun _ i _ => l.length - (intOf i).toNat)
  case atStart => exact ⟨0, [], rfl, rfl, by omega, by simp, rfl, Fr.refl _ _⟩
  case round =>
    obtain ⟨k, t, rfl, rfl, hk, ht, HN, HF⟩ := hrel
    by_cases hlt : k < l.length
    · obtain ⟨ad, rfl, -, c0, c1, c2, ok⟩ := op_at H.out HS.out HF.out hlt
      have hnext : t.length + l[k].2.1.length ≤ 1000000 := by
        have h1 := HSU.out
        have h2 := allS_split l (k + 1)
        have h3 := allS_take hlt
        have h5 := HN.out
        rw [h2, h3, List.length_append, List.length_append, ← h5] at h1
        omega
      have HN2 := Lib.hid (show t ++ l[k].2.1 = allS (l.take (k + 1)) by rw [allS_take hlt, HN.out])
      clear HN ok c0 c2
      generalize l[k].2.1 = s at c1 hnext HN2
      go_wp2_with fail
      go_roundw
      case rel => exact ⟨k + 1, t ++ s, by go_num, by first | rfl | (simp; done) | (simp [ByteArray.ext_iff]; done), by omega, by simp; omega, HN2, HF.out⟩
      case measure => simp [intOf]; omega
    · have HE := Lib.hid (show t = allS l by rw [HN.out, List.take_of_length_le (by omega)])
      clear HN
      go_wp2_with fail
      go_ret
      exact ⟨ret_str HE.out, HF.out⟩
theorem neq_op (W : World) (x : Op) :
    (binOp .neq 69 (.agg #[.int .i64 x.1, .string ⟨x.2.1.toArray⟩, .int .i64 x.2.2]) (.agg #[.int .i64 x.1, .string ⟨x.2.1.toArray⟩, .int .i64 x.2.2])).run Try.prog W = .ok (.bool false) W := by
  have h1 : Try.prog.underlying 69 = some (.struct (Try.prog.fieldsOf 69)) := by kernel_rfl
  have h2 : Try.prog.stoodInHeld 69 = false := by kernel_rfl
  have hu := Try.underlying69
  rw [run_neq_struct, run_equalIn_struct W _ _ _ _ h1 h2]
  simp [Program.fieldsOf, hu, Op.eqFields, go_sem]
end Brk
end Go.Proofs.Ytnfkkonmhinlcaa
