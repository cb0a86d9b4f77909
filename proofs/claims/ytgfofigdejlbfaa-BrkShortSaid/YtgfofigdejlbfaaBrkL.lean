/- Package brk: rows of ops: how many ticks, which bytes, the same. Printed by gen_brkl.py. -/
import Derived.Test.YtgfofigdejlbfaaBrkW
import Derived.Test.YtgfofigdejlbfaaSls
import Derived.Test.YtgfofigdejlbfaaBrow
namespace Go.Proofs.Ytgfofigdejlbfaa
open Go.RowKit
set_option linter.unusedVariables false
set_option linter.unusedSimpArgs false
namespace Brk
open Digit Sls
def encO (x : Op) : List Value := [.int .i64 x.1, .string ⟨x.2.1.toArray⟩, .int .i64 x.2.2]
/-- An op that can be read. -/
def OpOk (x : Op) : Prop := (Lit.int .i64 x.1).wf = true ∧ x.2.1.length ≤ 1000 ∧ (Lit.int .i64 x.2.2).wf = true
def ROp : Rd Op := fun _ _ cs x => cs = encO x ∧ OpOk x
theorem ROp.stable : Rd.Stable ROp := ⟨fun h _ _ => h⟩
theorem encO_one (l : List Op) : ∀ u ∈ l.flatMap encO, u.oneCell' = true := by
  intro u hu
  obtain ⟨x, -, h⟩ := List.mem_flatMap.1 hu
  simp only [encO, List.mem_cons, List.not_mem_nil, or_false] at h
  rcases h with rfl | rfl | rfl <;> rfl
theorem wf64 {n : Int} (h : (Lit.int .i64 n).wf = true) : -9223372036854775808 ≤ n ∧ n ≤ 9223372036854775807 := by
  have e1 : IntKind.i64.min = -9223372036854775808 := rfl
  have e2 : IntKind.i64.max = 9223372036854775807 := rfl
  simpa [Lit.wf, e1, e2] using h
theorem wf_of {n : Int} (h1 : -9223372036854775808 ≤ n) (h2 : n ≤ 9223372036854775807) : (Lit.int .i64 n).wf = true := by
  have e1 : IntKind.i64.min = -9223372036854775808 := rfl
  have e2 : IntKind.i64.max = 9223372036854775807 := rfl
  simpa [Lit.wf, e1, e2] using And.intro h1 h2
theorem fine_nn {x : Op} (h : Fine x) : 0 ≤ x.2.2 := by cases h <;> simp
theorem op_at {w wr : World} {S : Nat → Prop} {A : Option Addr} {m c i : Nat} {l : List Op} (h : RSl 3 ROp w S [.slice A m c] l) (hS : ∀ k, S k → k < w.heap.size) (hf : Fr No w wr) (hi : i < l.length) :
    ∃ ad, A = some ad ∧ ad.block < wr.heap.size ∧ wr.cell? (ad.add (i * 3)) = some (.int .i64 l[i].1) ∧ wr.cell? ⟨(ad.add (i * 3)).block, (ad.add (i * 3)).off + 1, none⟩ = some (.string ⟨l[i].2.1.toArray⟩) ∧ wr.cell? ⟨(ad.add (i * 3)).block, (ad.add (i * 3)).off + 2, none⟩ = some (.int .i64 l[i].2.2) ∧ OpOk l[i] := by
  obtain ⟨ad, ecs, g1, g2, g3, g4, rfl, g6⟩ := sl_at h hi
  have hk : ∀ j, wr.cell? ((ad.add (i * 3)).add j) = w.cell? ((ad.add (i * 3)).add j) := fun j => hf.cell (by rw [block_add, block_add]; exact hS _ g2) (fun h => h)
  have e0 := (hk 0).trans (g4 0 (by omega))
  have e1 := (hk 1).trans (g4 1 (by omega))
  have e2 := (hk 2).trans (g4 2 (by omega))
  rw [add_zero] at e0
  exact ⟨ad, g1, Nat.lt_of_lt_of_le (hS _ g2) hf.size, e0, e1, e2, g6⟩
theorem sl_fr {w w2 : World} {S : Nat → Prop} {v : Value} {l : List Op} (h : RSl 3 ROp w S [v] l) (hS : ∀ k, S k → k < w.heap.size) (hf : Fr No w w2) : RSl 3 ROp w2 S [v] l := (RSl.stable ROp.stable).go h (Kept.of_no hf hS) (fun _ h => h)
theorem sumN_take {l : List Op} {k : Nat} (h : k < l.length) : sumN (l.take (k + 1)) = sumN (l.take k) + l[k].2.2 := by
  rw [List.take_succ_eq_append_getElem h, sumN_snoc]
theorem allS_take {l : List Op} {k : Nat} (h : k < l.length) : allS (l.take (k + 1)) = allS (l.take k) ++ l[k].2.1 := by
  rw [List.take_succ_eq_append_getElem h, allS_snoc]
theorem sumN_nn {l : List Op} (h : ∀ x ∈ l, Fine x) : 0 ≤ sumN l := by
  induction l with
  | nil => simp [sumN]
  | cons x l ih =>
    have h1 := ih fun y hy => h y (List.mem_cons_of_mem _ hy)
    have h2 : 0 ≤ x.2.2 := by cases h x (by simp) <;> simp
    have : sumN (x :: l) = x.2.2 + sumN l := by simp [sumN]
    omega
theorem sumN_split (l : List Op) (k : Nat) : sumN l = sumN (l.take k) + sumN (l.drop k) := by
  conv => lhs; rw [← List.take_append_drop k l]
  simp only [sumN, List.map_append, List.sum_append]
theorem allS_split (l : List Op) (k : Nat) : allS l = allS (l.take k) ++ allS (l.drop k) := by
  conv => lhs; rw [← List.take_append_drop k l]
  simp only [allS, List.flatMap_append]
theorem allS_none {l : List Op} {k : Nat} (h : l.length ≤ k) : allS (l.take k) = allS l := by rw [List.take_of_length_le h]
set_option maxRecDepth 100000 in
set_option maxHeartbeats 2000000 in
theorem cost_any (v : Value) (l : List Op) (hfin : ∀ x ∈ l, Fine x) (hsum : sumN l ≤ 1000000) (w : World) (S : Nat → Prop) (hS : ∀ k, S k → k < w.heap.size) (h : RSl 3 ROp w S [v] l) :
    Calls Try.prog 10 #[v] w fun e w' => e = .returned (.int .i64 (sumN l)) ∧ Fr No w w' := by
  obtain ⟨A, c, rfl, hc1, hc2⟩ := h.slice
  unfold maxLen at hc2
  have H := Lib.hid h
  have HS := Lib.hid hS
  clear h hS
  have HFI := Lib.hid hfin
  have HSU := Lib.hid hsum
  clear hfin hsum
  go_enter Try.func10, Try.ntmps10
  go_wp2_with fail
  go_loopw [3, 8] (fun nv iv wr => ∃ (k : Nat) (n : Int), iv = .int .i64 k ∧ nv = .int .i64 n ∧ k ≤ l.length ∧ 0 ≤ n ∧ n ≤ 1000000 ∧ Hid (n = sumN (l.take k)) ∧ Hid (Fr No w wr)) (fun _ i _ => l.length - (intOf i).toNat)
  case atStart => exact ⟨0, 0, rfl, rfl, by omega, by omega, by omega, rfl, Fr.refl _ _⟩
  case round =>
    obtain ⟨k, n, rfl, rfl, hk, hn0, hn1, HN, HF⟩ := hrel
    by_cases hlt : k < l.length
    · obtain ⟨ad, rfl, -, c0, c1, c2, -⟩ := op_at H.out HS.out HF.out hlt
      have hx := HFI.out _ (List.getElem_mem hlt)
      have hnext : n + l[k].2.2 ≤ 1000000 := by
        have h1 := HSU.out
        have h2 := sumN_split l (k + 1)
        have h3 := sumN_take hlt
        have h4 : 0 ≤ sumN (l.drop (k + 1)) := sumN_nn fun y hy => HFI.out y (List.mem_of_mem_drop hy)
        have h5 := HN.out
        omega
      have HN2 := Lib.hid (show n + l[k].2.2 = sumN (l.take (k + 1)) by rw [sumN_take hlt, HN.out])
      clear HN
      generalize l[k] = x at c0 c1 c2 hx hnext HN2
      cases hx with
      | send s hs =>
        go_wp2_with fail
        go_roundw
        case rel => exact ⟨k + 1, n, by go_num, rfl, by omega, by omega, by omega, Lib.hid (by have := HN2.out; simpa using this), HF.out.alloc _⟩
        case measure => simp [intOf]; omega
      | wait m hm =>
        have hm0 : (0 : Int) < m := by omega
        have hnext : n + (m : Int) ≤ 1000000 := hnext
        have hnx : (m : Int) ≤ 1099511627776 - n := by omega
        go_wp2_with fail
        go_roundw
        case rel => exact ⟨k + 1, n + m, by go_num, rfl, by omega, by omega, by omega, HN2, HF.out.alloc _⟩
        case measure => simp [intOf]; omega
      | stop =>
        go_wp2_with fail
        go_roundw
        case rel => exact ⟨k + 1, n, by go_num, rfl, by omega, by omega, by omega, Lib.hid (by have := HN2.out; simpa using this), HF.out.alloc _⟩
        case measure => simp [intOf]; omega
    · have HE := Lib.hid (show n = sumN l by rw [HN.out, List.take_of_length_le (by omega)])
      clear HN
      go_wp2_with fail
      go_ret
      exact ⟨ret_int HE.out, HF.out⟩
set_option maxRecDepth 100000 in
set_option maxHeartbeats 2000000 in
theorem rcost_any (v : Value) (l : List Op) (hfin : ∀ x ∈ l, Fine x) (hsum : sumN l ≤ 1000000) (w : World) (S : Nat → Prop) (hS : ∀ k, S k → k < w.heap.size) (h : RSl 3 ROp w S [v] l) :
    Calls Try.prog 11 #[v] w fun e w' => e = .returned (.int .i64 (sumN l)) ∧ Fr No w w' := by
  obtain ⟨A, c, rfl, hc1, hc2⟩ := h.slice
  unfold maxLen at hc2
  have H := Lib.hid h
  have HS := Lib.hid hS
  clear h hS
  have HFI := Lib.hid hfin
  have HSU := Lib.hid hsum
  clear hfin hsum
  go_enter Try.func11, Try.ntmps11
  go_wp2_with fail
  go_loopw [3, 4] (fun nv iv wr => ∃ (k : Nat) (n : Int), iv = .int .i64 k ∧ nv = .int .i64 n ∧ k ≤ l.length ∧ 0 ≤ n ∧ n ≤ 1000000 ∧ Hid (n = sumN (l.take k)) ∧ Hid (Fr No w wr)) (fun _ i _ => l.length - (intOf i).toNat)
  case atStart => exact ⟨0, 0, rfl, rfl, by omega, by omega, by omega, rfl, Fr.refl _ _⟩
  case round =>
    obtain ⟨k, n, rfl, rfl, hk, hn0, hn1, HN, HF⟩ := hrel
    by_cases hlt : k < l.length
    · obtain ⟨ad, rfl, -, c0, c1, c2, -⟩ := op_at H.out HS.out HF.out hlt
      have hx := HFI.out _ (List.getElem_mem hlt)
      have hx0 : 0 ≤ l[k].2.2 := fine_nn hx
      have hnext : n + l[k].2.2 ≤ 1000000 := by
        have h1 := HSU.out
        have h2 := sumN_split l (k + 1)
        have h3 := sumN_take hlt
        have h4 : 0 ≤ sumN (l.drop (k + 1)) := sumN_nn fun y hy => HFI.out y (List.mem_of_mem_drop hy)
        have h5 := HN.out
        omega
      have HN2 := Lib.hid (show n + l[k].2.2 = sumN (l.take (k + 1)) by rw [sumN_take hlt, HN.out])
      clear HN hx
      generalize l[k] = x at c0 c1 c2 hx0 hnext HN2
      obtain ⟨kd, s, m⟩ := x
      replace c2 : wr.cell? ⟨(ad.add (k * 3)).block, (ad.add (k * 3)).off + 2, none⟩ = some (.int .i64 m) := c2
      replace hx0 : 0 ≤ m := hx0
      replace hnext : n + m ≤ 1000000 := hnext
      clear c0 c1
      go_wp2_with fail
      go_roundw
      case rel => exact ⟨k + 1, n + m, by go_num, rfl, by omega, by omega, by omega, HN2, HF.out⟩
      case measure => simp [intOf]; omega
    · have HE := Lib.hid (show n = sumN l by rw [HN.out, List.take_of_length_le (by omega)])
      clear HN
      go_wp2_with fail
      go_ret
      exact ⟨ret_int HE.out, HF.out⟩
set_option maxRecDepth 100000 in
set_option maxHeartbeats 2000000 in
theorem bytes_any (v : Value) (l : List Op) (hfin : ∀ x ∈ l, Fine x) (hsum : (allS l).length ≤ 1000000) (w : World) (S : Nat → Prop) (hS : ∀ k, S k → k < w.heap.size) (h : RSl 3 ROp w S [v] l) :
    Calls Try.prog 12 #[v] w fun e w' => e = .returned (.string ⟨(allS l).toArray⟩) ∧ Fr No w w' := by
  obtain ⟨A, c, rfl, hc1, hc2⟩ := h.slice
  unfold maxLen at hc2
  have H := Lib.hid h
  have HS := Lib.hid hS
  clear h hS
  have HFI := Lib.hid hfin
  have HSU := Lib.hid hsum
  clear hfin hsum
  go_enter Try.func12, Try.ntmps12
  go_wp2_with fail
  go_loopw [3, 8] (fun bv iv wr => ∃ (k : Nat) (t : Str), iv = .int .i64 k ∧ k ≤ l.length ∧ t.length ≤ 1000000 ∧ Hid (t = allS (l.take k)) ∧ Hid (BRow w wr 5 bv t)) (fun _ i _ => l.length - (intOf i).toNat)
  case atStart => exact ⟨0, [], rfl, by omega, by simp, rfl, BRow.start _ _⟩
  case round =>
    obtain ⟨k, t, rfl, hk, ht, HN, HB⟩ := hrel
    obtain ⟨BB, cb, rfl⟩ := HB.out.form
    obtain ⟨j, hj⟩ : ∃ j, j = t.length := ⟨_, rfl⟩
    have HJ := Lib.hid hj
    rw [← hj] at ht ⊢
    rw [← hj] at HB
    clear hj
    by_cases hlt : k < l.length
    · obtain ⟨ad, rfl, -, c0, c1, c2, ok⟩ := op_at H.out HS.out HB.out.fr hlt
      have hx := HFI.out _ (List.getElem_mem hlt)
      have hnext : j + l[k].2.1.length ≤ 1000000 := by
        have h1 := HSU.out
        have h2 := allS_split l (k + 1)
        have h3 := allS_take hlt
        have h5 := HN.out
        have h6 := HJ.out
        rw [h2, h3, List.length_append, List.length_append, ← h5, ← h6] at h1
        omega
      have HN2 := Lib.hid (show t ++ l[k].2.1 = allS (l.take (k + 1)) by rw [allS_take hlt, HN.out])
      have HJ2 := Lib.hid (show j + l[k].2.1.length = (t ++ l[k].2.1).length by rw [List.length_append, HJ.out])
      clear HN ok
      generalize l[k] = x at c0 c1 c2 hx hnext HN2 HJ2
      cases hx with
      | send s hs =>
        have hnext : j + s.length ≤ 1000000 := hnext
        have HB1 := Lib.hid (HB.out.no ((Fr.refl No wr).alloc (.cells #[.int .i64 1, .string ⟨s.toArray⟩, .int .i64 0] 32)))
        go_wp2_with (at_builtin; go_loud (refine wp_bstr (w := w) rfl (.tmp 15) (.tmp 17) 46 9 rfl 5 Try.underlying46 Try.underlying9 infoB (.slice BB j cb) t rfl HB1.out s rfl (by have := HJ.out; omega) ?_; intro v2 w2 p1; have P1 := Lib.hid p1; clear p1))
        go_roundw
        case rel => exact ⟨k + 1, t ++ s, by go_num, by omega, by have := HJ.out; simp; omega, HN2, P1⟩
        case measure => simp [intOf]; omega
      | wait m hm =>
        go_wp2_with fail
        go_roundw
        case rel => exact ⟨k + 1, t, by go_num, by omega, by have := HJ.out; omega, Lib.hid (by have := HN2.out; simpa using this), HB.out.no ((Fr.refl No wr).alloc _)⟩
        case measure => simp [intOf]; omega
      | stop =>
        go_wp2_with fail
        go_roundw
        case rel => exact ⟨k + 1, t, by go_num, by omega, by have := HJ.out; omega, Lib.hid (by have := HN2.out; simpa using this), HB.out.no ((Fr.refl No wr).alloc _)⟩
        case measure => simp [intOf]; omega
    · have HE := Lib.hid (show t = allS l by rw [HN.out, List.take_of_length_le (by omega)])
      have hcv := HB.out.conv (P := Try.prog) (src := 46) (dst := 9) Try.underlying46 Try.underlying5 Try.underlying9
      clear HN
      go_wp2_with fail
      go_ret
      exact ⟨ret_str HE.out, HB.out.fr⟩
set_option maxRecDepth 100000 in
set_option maxHeartbeats 2000000 in
theorem rbytes_any (v : Value) (l : List Op) (hsum : (allS l).length ≤ 1000000) (w : World) (S : Nat → Prop) (hS : ∀ k, S k → k < w.heap.size) (h : RSl 3 ROp w S [v] l) :
    Calls Try.prog 13 #[v] w fun e w' => e = .returned (.string ⟨(allS l).toArray⟩) ∧ Fr No w w' := by
  obtain ⟨A, c, rfl, hc1, hc2⟩ := h.slice
  unfold maxLen at hc2
  have H := Lib.hid h
  have HS := Lib.hid hS
  clear h hS
  have HSU := Lib.hid hsum
  clear hsum
  go_enter Try.func13, Try.ntmps13
  go_wp2_with fail
  go_loopw [3, 4] (fun bv iv wr => ∃ (k : Nat) (t : Str), iv = .int .i64 k ∧ bv = .string ⟨t.toArray⟩ ∧ k ≤ l.length ∧ t.length ≤ 1000000 ∧ Hid (t = allS (l.take k)) ∧ Hid (Fr No w wr)) (fun _ i _ => l.length - (intOf i).toNat)
  case atStart => exact ⟨0, [], rfl, rfl, by omega, by simp, rfl, Fr.refl _ _⟩
  case round =>
    obtain ⟨k, t, rfl, rfl, hk, ht, HN, HF⟩ := hrel
    by_cases hlt : k < l.length
    · obtain ⟨ad, rfl, -, c0, c1, c2, ok⟩ := op_at H.out HS.out HF.out hlt
      have hnext : t.length + l[k].2.1.length ≤ 1000000 := by
        have h1 := HSU.out
        have h2 := allS_split l (k + 1)
        have h3 := allS_take hlt
        have h5 := HN.out
        rw [h2, h3, List.length_append, List.length_append, ← h5] at h1
        omega
      have HN2 := Lib.hid (show t ++ l[k].2.1 = allS (l.take (k + 1)) by rw [allS_take hlt, HN.out])
      clear HN ok c0 c2
      generalize l[k].2.1 = s at c1 hnext HN2
      go_wp2_with fail
      go_roundw
      case rel => exact ⟨k + 1, t ++ s, by go_num, by first | rfl | (simp; done) | (simp [ByteArray.ext_iff]; done), by omega, by simp; omega, HN2, HF.out⟩
      case measure => simp [intOf]; omega
    · have HE := Lib.hid (show t = allS l by rw [HN.out, List.take_of_length_le (by omega)])
      clear HN
      go_wp2_with fail
      go_ret
      exact ⟨ret_str HE.out, HF.out⟩
theorem neq_op (W : World) (x : Op) :
    (binOp .neq 32 (.agg #[.int .i64 x.1, .string ⟨x.2.1.toArray⟩, .int .i64 x.2.2]) (.agg #[.int .i64 x.1, .string ⟨x.2.1.toArray⟩, .int .i64 x.2.2])).run Try.prog W = .ok (.bool false) W := by
  have h1 : Try.prog.underlying 32 = some (.struct (Try.prog.fieldsOf 32)) := by kernel_rfl
  have h2 : Try.prog.stoodInHeld 32 = false := by kernel_rfl
  have hu := Try.underlying32
  rw [run_neq_struct, run_equalIn_struct W _ _ _ _ h1 h2]
  simp [Program.fieldsOf, hu, Op.eqFields, go_sem]
set_option maxRecDepth 100000 in
set_option maxHeartbeats 2000000 in
theorem rsame_yes (v u : Value) (l : List Op) (w : World) (S S2 : Nat → Prop) (hS : ∀ k, S k → k < w.heap.size) (h : RSl 3 ROp w S [v] l) (hS2 : ∀ k, S2 k → k < w.heap.size) (h2 : RSl 3 ROp w S2 [u] l) :
    Calls Try.prog 9 #[v, u] w fun e w' => e = .returned (.bool true) ∧ Fr No w w' := by
  obtain ⟨A, c, rfl, hc1, hc2⟩ := h.slice
  unfold maxLen at hc2
  have H := Lib.hid h
  have HS := Lib.hid hS
  clear h hS
  obtain ⟨A2, c2, rfl, hd1, hd2⟩ := h2.slice
  unfold maxLen at hd2
  have H2 := Lib.hid h2
  have HS2 := Lib.hid hS2
  clear h2 hS2
  have hln : ((l.length : Int) != l.length) = false := by simp
  go_enter Try.func9, Try.ntmps9
  go_wp2_with fail
  go_loopw [5] (fun iv wr => ∃ (k : Nat), iv = .int .i64 k ∧ k ≤ l.length ∧ Hid (Fr No w wr)) (fun i _ => l.length - (intOf i).toNat)
  case atStart => exact ⟨0, rfl, by omega, Fr.refl _ _⟩
  case round =>
    obtain ⟨k, rfl, hk, HF⟩ := hrel
    by_cases hlt : k < l.length
    · obtain ⟨ad, rfl, -, c0, c1, c2, -⟩ := op_at H.out HS.out HF.out hlt
      obtain ⟨ad2, rfl, -, d0, d1, d2, -⟩ := op_at H2.out HS2.out HF.out hlt
      have heq := fun W => neq_op W l[k]
      generalize l[k] = x at c0 c1 c2 d0 d1 d2 heq
      obtain ⟨x1, x2, x3⟩ := x
      simp only at c0 c1 c2 d0 d1 d2 heq
      go_wp2_with fail
      go_region
      all_goals
        go_wp2_with fail
        go_roundw
        case rel => exact ⟨k + 1, by go_num, by omega, by first | exact HF | exact HF.out.drew | exact HF.out.drewN _⟩
        case measure => simp [intOf]; omega
    · go_wp2_with fail
      go_ret
      exact ⟨rfl, HF.out⟩
end Brk
end Go.Proofs.Ytgfofigdejlbfaa
