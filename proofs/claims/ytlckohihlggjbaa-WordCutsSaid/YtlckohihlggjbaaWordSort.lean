/- Package word: Sort. -/
import Derived.Test.YtlckohihlggjbaaWordRSort
import Derived.Test.YtlckohihlggjbaaSlices
import Derived.Test.YtlckohihlggjbaaSortLay
import Derived.Lib.OwnBridge
import Derived.Lib.AppendIntMem
namespace Go.Proofs.Ytlckohihlggjbaa
open Go.RowKit Go.Shelf Go.Lib Go.Sort
set_option linter.unusedVariables false
set_option linter.unusedSimpArgs false
namespace Word
theorem fr_put {F : Nat → Prop} {w W : World} {α : Type} [Inhabited α] {enc : α → Value} {g off n : Nat} {d : Array α} {os : Array Obj} (h : Fr F w W) (hg : F g ∨ w.heap.size ≤ g) : Fr F w (grow (putRow enc (Sort.ahead W n) g off d) os) := by
  refine ⟨h.os, h.tape, h.output, ?_, fun k hk hn => ?_⟩
  · have := h.size
    simp [grow, putRow, mapBlock, Sort.ahead]
    omega
  · have hne : ¬ g = k := by
      rintro rfl
      rcases hg with hg | hg
      · exact hn hg
      · omega
    have hs := h.size
    rw [← h.block k hk hn]
    simp only [grow, putRow, mapBlock, Sort.ahead]
    rw [Array.getElem?_append_left (by simp; omega), Array.getElem?_modify, if_neg hne]
theorem eq_str : EqlAt Try.prog (compactA_ren.t 23) encStr (fun x y => decide (x = y)) := by
  refine ⟨fun x y w => ?_, fun op a b x y w => by rw [eqGuard_at_string]; rfl⟩
  by_cases h : x = y <;> simp [binOp, Op.stringOp, h]
theorem ne_str : NeqAt Try.prog (compactA_ren.t 23) encStr (fun x y => decide (x = y)) := by
  refine ⟨fun x y w => ?_, fun op a b x y w => by rw [eqGuard_at_string]; rfl⟩
  by_cases h : x = y <;> simp [binOp, Op.stringOp, h]
theorem zero_str (w : World) : (zeroValue (compactA_ren.t 23)).run Try.prog w = .ok (encStr []) w := by
  show (zeroValue 9).run Try.prog w = _
  simp [go_sem]
theorem compact0 (p : Option Addr) (c : Nat) (w : World) : Calls Try.prog 81 #[.slice p 0 c] w fun e w' => e = .returned (.slice p 0 c) ∧ w = w' := by
  go_enter Try.func81, Try.ntmps81
  go_wp2
  go_ret
  exact ⟨rfl, rfl⟩
theorem wsort_any (v : Value) (l : List Str) (w : World) (S : Nat → Prop) (hv : RSl 1 RStr w S [v] l) (hl : l.length ≤ 1000) : Calls Try.prog 54 #[v] w fun e w' => ∃ v', e = .returned v' ∧ w'.ownsRow 0 9 1 v' (sortR l).length ((sortR l).map encS) ∧ Step No w (Of v') w' := by
  have HC := Lib.hid (Sstr.clone_any v l w S hv (by omega))
  obtain ⟨A, cap, rfl, hc1, hc2, hel⟩ := hv.strs
  clear hel hv
  go_enter Try.func54, Try.ntmps54
  go_wp2_with fail
  refine HC.out.mono ?_
  rintro e w1 ⟨v1, rfl, ho, hf⟩
  by_cases hn : v1 = .slice none 0 0
  · subst hn
    have hl0 : l = [] := by
      have := (own_len ho).1
      exact List.eq_nil_of_length_eq_zero this.symm
    subst hl0
    have HF := Lib.hid hf
    clear ho hf HC
    have cS := fun w => AnyM.slices_Sort_string_none sortA none 0 w
    change ∀ w, Calls Try.prog 80 _ _ _ at cS
    go_wp2_with fail
    refine (cS _).mono ?_
    rintro e w2 ⟨rfl, rfl⟩
    go_wp2_with fail
    refine (compact0 _ _ _).mono ?_
    rintro e w3 ⟨rfl, rfl⟩
    go_wp2_with fail
    go_ret
    exact ⟨_, rfl, World.ownsRow_nil _ _ _ _, HF.out, fun k hk => by cases hk⟩
  · obtain ⟨g, c, rfl, hb, hlt, hlc, hcm, hll, hH⟩ := holds_of_ownsRow (enc := encStr) (zs := l) ho hn
    have cS := AnyM.slices_Sort_string sortA g 0 c l w1 hH hlt (by omega)
    change Calls Try.prog 80 _ _ _ at cS
    have HO := Lib.hid (World.ownsRow.mono ho (Nat.le_refl _))
    have HF := Lib.hid hf
    have CS := Lib.hid cS
    clear ho hf HC hH cS
    go_wp2_with fail
    refine CS.out.mono ?_
    rintro e w2 ⟨rfl, n, os, hw2⟩
    have hperm := List.mergeSort_perm l (fun x y => decide (x ≤ y))
    have hml := hperm.length_eq
    have hcs := compact_sort l
    obtain ⟨m, hm⟩ : ∃ m, l.mergeSort (fun x y => decide (x ≤ y)) = m := ⟨_, rfl⟩
    rw [hm] at hw2 hml hcs
    have ho2 : w2.ownsRow w.heap.size 9 1 (.slice (some ⟨g, 0, none⟩) l.length c) l.length (m.map encStr) := by
      have h := ownsRow_putRow (enc := encStr) (q := n) (ys := m) (k := l.length) (zs := l) HO.out hml (Nat.le_refl _)
      rw [List.take_of_length_le (by omega)] at h
      have h2 := ownsRow_grow h 0 os
      rw [hw2]
      exact h2
    have hf2 : Fr No w w2 := by rw [hw2]; exact fr_put HF.out (.inr hb)
    clear hw2 hm hperm
    obtain ⟨g', c', he, hb2, hlt2, hlc2, hcm2, hll2, hH2⟩ := holds_of_ownsRow (enc := encStr) (zs := m) ho2 (by intro h; cases h)
    injection he with he1 _ he3
    injection he1 with he1
    injection he1 with he1
    subst he1 he3
    have cC := AnyE.slices_Compact compactA encStr (fun _ => rfl) eq_str ne_str [] zero_str g 0 c m.toArray w2 hH2 (by simp; omega) (by simp; omega)
    change Calls Try.prog 81 _ _ _ at cC
    have hms : m.toArray.size = l.length := by simp [hml]
    rw [hcs, hms] at cC
    have hsl := sort_len l
    have HO2 := Lib.hid ho2
    have HF2 := Lib.hid hf2
    have CC := Lib.hid cC
    clear ho2 hf2 hH2 cC hcs
    go_wp2_with fail
    refine CC.out.mono ?_
    rintro e w3 ⟨rfl, q, hw3⟩
    have ho3 : w3.ownsRow w.heap.size 9 1 (.slice (some ⟨g, 0, none⟩) (sortR l).length c) (sortR l).length ((sortR l).map encStr) := by
      have h := ownsRow_putRow (enc := encStr) (q := q) (ys := sortR l ++ List.replicate (l.length - (sortR l).length) []) (k := (sortR l).length) (zs := m) HO2.out (by simp; omega) hsl
      rw [List.take_left' rfl] at h
      rw [hw3]
      exact h
    have hf3 : Fr No w w3 := by
      have h := fr_put (enc := encStr) (g := g) (off := 0) (n := q) (d := (sortR l ++ List.replicate (l.length - (sortR l).length) []).toArray) (os := #[]) HF2.out (.inr hb)
      rw [grow_empty] at h
      rw [hw3]; exact h
    have HO3 := Lib.hid ho3
    have HF3 := Lib.hid hf3
    clear hw3 ho3 hf3
    go_wp2_with fail
    go_ret
    refine ⟨_, rfl, World.ownsRow.mono HO3.out (Nat.zero_le _), HF3.out, fun k hk => ?_⟩
    have hk' : some g = some k := hk
    injection hk' with hk'
    subst hk'
    exact .inr ⟨hb, (HO3.out.lt g rfl).2⟩
end Word
end Go.Proofs.Ytlckohihlggjbaa
