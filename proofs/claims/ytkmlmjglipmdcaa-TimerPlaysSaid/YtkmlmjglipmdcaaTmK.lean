/- A map from numbers to pointers that the call has made: look-up, store of a new key, delete, len. -/
import Derived.Test.YtkmlmjglipmdcaaTmS
import Derived.MapKept
import Derived.WideLaws
namespace Go.Proofs.Ytkmlmjglipmdcaa
open Go.RowKit
set_option linter.unusedVariables false
set_option linter.unusedSimpArgs false
namespace Tm
def encB (e : Nat) : Value := .pointer (some ⟨e, 0, none⟩)
/-- The map at mp: who is in which block, in the order in which they were put. -/
def MAt (w : World) (mp : Nat) (M : List (Int × Nat)) : Prop := ∃ es clock, w.heap[mp]? = some (.map es clock) ∧ es.toList.map (fun e => (e.key, e.val)) = M.map (fun p => (Value.int .i64 p.1, encB p.2))
section
variable {w w' : World} {mp : Nat} {M : List (Int × Nat)}
theorem MAt.lt (h : MAt w mp M) : mp < w.heap.size := by
  obtain ⟨es, clock, h, _⟩ := h
  exact (Array.getElem?_eq_some_iff.1 h).1
theorem MAt.fr {H : Nat → Prop} (h : MAt w mp M) (hf : Fr H w w') (hn : ¬ H mp) : MAt w' mp M := by
  have hl := h.lt
  obtain ⟨es, clock, h1, h2⟩ := h
  exact ⟨es, clock, (hf.block mp hl hn).trans h1, h2⟩
theorem MAt.no (h : MAt w mp M) (hf : Fr No w w') : MAt w' mp M := h.fr hf (fun h => h)
theorem keys_is {es : List MapEntry} (h : es.map (fun e => (e.key, e.val)) = M.map (fun p => (Value.int .i64 p.1, encB p.2))) : ∀ x ∈ es, MapKept.IsKey (.int .i64) x.key := fun x hx => by
  have : (x.key, x.val) ∈ es.map (fun e => (e.key, e.val)) := List.mem_map.2 ⟨x, hx, rfl⟩
  rw [h] at this
  obtain ⟨p, _, hp⟩ := List.mem_map.1 this
  injection hp with h1 _
  rw [← h1]
  simp [MapKept.IsKey]
theorem find_no {es : List MapEntry} {k : Int} (h : es.map (fun e => (e.key, e.val)) = M.map (fun p => (Value.int .i64 p.1, encB p.2))) (hk : ∀ p ∈ M, p.1 ≠ k) : Instr.findNow (.int .i64) (.int .i64 k) es 0 = some none := by
  rcases MapKept.findNow_spec (d := .int .i64) (k := .int .i64 k) (by simp [MapKept.IsKey]) es 0 (keys_is h) with ⟨h1, _⟩ | ⟨j, e, h1, h2, h3⟩
  · exact h1
  · exfalso
    have : (e.key, e.val) ∈ es.map (fun e => (e.key, e.val)) := List.mem_map.2 ⟨e, List.mem_of_getElem? h2, rfl⟩
    rw [h] at this
    obtain ⟨p, hp, he⟩ := List.mem_map.1 this
    injection he with g1 _
    rw [h3] at g1
    injection g1 with _ g1
    exact hk p hp g1
theorem find_yes {es : List MapEntry} {j : Nat} (h : es.map (fun e => (e.key, e.val)) = M.map (fun p => (Value.int .i64 p.1, encB p.2))) (hn : (M.map (·.1)).Nodup) (hj : j < M.length) : Instr.findNow (.int .i64) (.int .i64 M[j].1) es 0 = some (some (j, encB M[j].2)) := by
  have hat : ∀ i (hi : i < es.length) (hi' : i < M.length), es[i].key = .int .i64 M[i].1 ∧ es[i].val = encB M[i].2 := fun i hi hi' => by
    have : (es.map (fun e => (e.key, e.val)))[i]'(by rw [List.length_map]; exact hi) = (M.map (fun p => (Value.int .i64 p.1, encB p.2)))[i]'(by rw [List.length_map]; exact hi') := by simp only [h]
    rw [List.getElem_map, List.getElem_map] at this
    injection this with a1 a2
    exact ⟨a1, a2⟩
  have hlen : es.length = M.length := by have := congrArg List.length h; simpa using this
  rcases MapKept.findNow_spec (d := .int .i64) (k := .int .i64 M[j].1) (by simp [MapKept.IsKey]) es 0 (keys_is h) with ⟨_, h2⟩ | ⟨i, e, h1, h2, h3⟩
  · exact absurd (hat j (by omega) hj).1 (h2 _ (List.getElem_mem _))
  · obtain ⟨hi, he⟩ := List.getElem?_eq_some_iff.1 h2
    have hi' : i < M.length := by omega
    have hke := (hat i hi hi').1
    rw [he, h3] at hke
    injection hke with _ hke
    have hij : j = i := by
      have hp := List.pairwise_iff_getElem.1 (List.nodup_iff_pairwise_ne.1 hn)
      rcases Nat.lt_trichotomy j i with g | g | g
      · have := hp j i (by rw [List.length_map]; exact hj) (by rw [List.length_map]; exact hi') g
        rw [List.getElem_map, List.getElem_map] at this
        exact absurd hke this
      · exact g
      · have := hp i j (by rw [List.length_map]; exact hi') (by rw [List.length_map]; exact hj) g
        rw [List.getElem_map, List.getElem_map] at this
        exact absurd hke.symm this
    subst hij
    rw [h1]
    have hv := (hat j hi hj).2
    rw [he] at hv
    rw [hv, Nat.zero_add]
theorem map_erase {α β : Type} (f : α → β) : ∀ (l : List α) (j : Nat), (l.eraseIdx j).map f = (l.map f).eraseIdx j
  | [], _ => rfl
  | _ :: _, 0 => rfl
  | a :: l, j + 1 => by simp [map_erase f l j]
theorem ukey : Try.prog.underlying 3 = some (.int .i64) := Try.underlying3
theorem umap : Try.prog.underlying 57 = some (.map 3 62) := Try.underlying57
theorem zero_ptr (w : World) : (zeroValue 62).run Try.prog w = .ok (.pointer none) w := by kernel_rfl
theorem look_no {k : Int} (h : MAt w mp M) (hk : ∀ p ∈ M, p.1 ≠ k) : (Instr.lookup 57 (.map (some mp)) (.int .i64 k) true).run Try.prog w = .ok (.tuple #[.pointer none, .bool false]) w := by
  obtain ⟨es, clock, h1, h2⟩ := h
  have hf := MapKept.run_findKey (P := Try.prog) (w := w) ukey (find_no h2 hk)
  simp [Instr.lookup, run_underlying umap, MapKept.run_getObj_map h1, MapKept.run_checkKey ukey (show MapKept.IsKey (.int .i64) (.int .i64 k) by simp [MapKept.IsKey]), hf, zero_ptr, Result.andThen]
theorem look_yes {j : Nat} (h : MAt w mp M) (hn : (M.map (·.1)).Nodup) (hj : j < M.length) : (Instr.lookup 57 (.map (some mp)) (.int .i64 M[j].1) true).run Try.prog w = .ok (.tuple #[encB M[j].2, .bool true]) w := by
  obtain ⟨es, clock, h1, h2⟩ := h
  have hf := MapKept.run_findKey (P := Try.prog) (w := w) ukey (find_yes h2 hn hj)
  simp [Instr.lookup, run_underlying umap, MapKept.run_getObj_map h1, MapKept.run_checkKey ukey (show MapKept.IsKey (.int .i64) (.int .i64 M[j].1) by simp [MapKept.IsKey]), hf, Result.andThen]
theorem MAt.fr_set {o : Obj} (h : mp < w.heap.size) : Fr (fun k => k = mp) w { w with heap := w.heap.setIfInBounds mp o } :=
  ⟨rfl, rfl, rfl, by simp, fun b hb hne => by
    have : b ≠ mp := hne
    simp [Ne.symm this]⟩
theorem put_run {k : Int} {x : Nat} (h : MAt w mp M) (hk : ∀ p ∈ M, p.1 ≠ k) : ∃ w', (Instr.mapUpdate 57 (.map (some mp)) (.int .i64 k) (encB x)).run Try.prog w = .ok () w' ∧ MAt w' mp (M ++ [(k, x)]) ∧ Fr (fun k => k = mp) w w' := by
  have hl := h.lt
  obtain ⟨es, clock, h1, h2⟩ := h
  have hf := MapKept.run_findKey (P := Try.prog) (w := w) ukey (find_no h2 hk)
  refine ⟨_, by simp [Instr.mapUpdate, run_underlying umap, MapKept.run_getObj_map h1, MapKept.run_checkKey ukey (show MapKept.IsKey (.int .i64) (.int .i64 k) by simp [MapKept.IsKey]), hf, MapKept.run_setObj_map _ h1, Result.andThen], ⟨es.push { key := .int .i64 k, val := encB x, born := clock }, clock + 1, (MapKept.heap_set h1).1, ?_⟩, MAt.fr_set hl⟩
  rw [Array.toList_push, List.map_append, List.map_append, h2]
  rfl
theorem del_run {j : Nat} {ty : TypeId} (h : MAt w mp M) (hn : (M.map (·.1)).Nodup) (hj : j < M.length) : ∃ w', (Builtin.delete_ #[57, 3] ty #[.map (some mp), .int .i64 M[j].1]).run Try.prog w = .ok (.tuple #[]) w' ∧ MAt w' mp (M.eraseIdx j) ∧ Fr (fun k => k = mp) w w' := by
  have hl := h.lt
  obtain ⟨es, clock, h1, h2⟩ := h
  have hf := MapKept.run_findKey (P := Try.prog) (w := w) ukey (find_yes h2 hn hj)
  have hlen : es.size = M.length := by have := congrArg List.length h2; simpa using this
  refine ⟨_, by simp [Builtin.delete_, run_underlying umap, MapKept.run_getObj_map h1, MapKept.run_checkKey ukey (show MapKept.IsKey (.int .i64) (.int .i64 M[j].1) by simp [MapKept.IsKey]), hf, MapKept.run_setObj_map _ h1, Result.andThen], ⟨es.eraseIdxIfInBounds j, clock, (MapKept.heap_set h1).1, ?_⟩, MAt.fr_set hl⟩
  have e : (es.eraseIdxIfInBounds j).toList = es.toList.eraseIdx j := by
    rw [Array.eraseIdxIfInBounds_eq]
    split
    · simp
    · omega
  rw [e, map_erase, h2, map_erase]
theorem len_run (h : MAt w mp M) (ty : TypeId) : (Builtin.len_ #[57] ty #[.map (some mp)]).run Try.prog w = .ok (.int .i64 M.length) w := by
  obtain ⟨es, clock, h1, h2⟩ := h
  have hlen : es.size = M.length := by have := congrArg List.length h2; simpa using this
  simp [Builtin.len_, run_underlying umap, MapKept.run_getObj_map h1, Result.andThen, goInt, hlen]
end
section
variable {P : Program} {ops : Array Oper} {rest : List Oper} {o : Oper} {a : Act} {Q : Exit → Act → World → Prop} {w : World} {mp : Nat} {M : List (Int × Nat)}
/-- A new key is stored. -/
theorem wp_mput (hg : o.guard = none) (m x v : Operand) (hop : o.op = Op.mapUpdate 57 m x v) (k : Int) (e : Nat) (hm : a.eval m = .map (some mp)) (hx : a.eval x = .int .i64 k) (hv : a.eval v = encB e) (h : MAt w mp M) (hk : ∀ p ∈ M, p.1 ≠ k)
    (hK : ∀ w', MAt w' mp (M ++ [(k, e)]) → Fr (fun k => k = mp) w w' → wpList Try.prog ops Q rest (a.put o.dst undef) w') : wpList Try.prog ops Q (o :: rest) a w := by
  refine wpList_plain hg fun K' hK' => ?_
  obtain ⟨w', hrun, r1, r2⟩ := put_run (x := e) h hk
  unfold Oper.wp
  simp [execOp, hop, hm, hx, hv, hrun, Result.andThen]
  exact hK' _ _ (hK w' r1 r2)
end
end Tm
end Go.Proofs.Ytkmlmjglipmdcaa
