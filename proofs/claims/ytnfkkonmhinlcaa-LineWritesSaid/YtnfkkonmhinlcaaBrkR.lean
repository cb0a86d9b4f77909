/- Package brk: rows in which an element is set; the reference's one, whole; what Read answers. Printed by gen_brkr.py. -/
import Derived.Test.YtnfkkonmhinlcaaBrkQ
import Derived.Deep.LoopGhost
import Derived.Outline
import Derived.BigQuiet
import Derived.Deep.CutRange
import Derived.Deep.RegionHeld3
import Derived.Test.YtnfkkonmhinlcaaStill
namespace Go.Proofs.Ytnfkkonmhinlcaa
open Go.RowKit
set_option linter.unusedVariables false
set_option linter.unusedSimpArgs false
/-- A cell of a row of the call's own is set. -/
theorem own_set {w : World} {base : Nat} {e : TypeId} {size n c g : Nat} {xs : List Value} (h : w.ownsRow base e size (.slice (some ⟨g, 0, none⟩) n c) n xs) (j : Nat) (hj : j < xs.length) (u : Value) :
    (w.setCell ⟨g, j, none⟩ u).ownsRow base e size (.slice (some ⟨g, 0, none⟩) n c) n (xs.set j u) := by
  obtain ⟨hl, h⟩ := h
  refine ⟨by rw [List.length_set]; exact hl, .inr ?_⟩
  rcases h with ⟨h, _⟩ | ⟨g', cap, cur, h1, h2, h3, h4, h5, h6, h7⟩
  · cases h
  · injection h1 with a1 a2 a3
    injection a1 with a1
    injection a1 with a1
    subst a1 a3
    have hb : Blk w g e cur := h3
    refine ⟨g, c, cur.setIfInBounds j u, rfl, h2, hb.put j u, h4, h5, by simpa using h6, ?_⟩
    rw [Array.toList_setIfInBounds, List.take_set, h7]
theorem own_frozen {w : World} {base : Nat} {e : TypeId} {size n c g : Nat} {xs : List Value} (h : w.ownsRow base e size (.slice (some ⟨g, 0, none⟩) n c) n xs) (j : Nat) : w.frozen? ⟨g, j, none⟩ = false := by
  rcases h.2 with ⟨h, _⟩ | ⟨g', cap, cur, h1, h2, h3, h4, h5, h6, h7⟩
  · cases h
  · injection h1 with a1 a2 a3
    injection a1 with a1
    injection a1 with a1
    subst a1
    exact Blk.frozen (cs := cur) (t := e) h3 j
namespace Brk
open Digit Sls
def encL (x : Op) : List Value := [encI x]
theorem encI_one (x : Op) : (encI x).oneCell' = true := by
  unfold encI
  split
  · rfl
  · split <;> rfl
theorem encI_form (x : Op) : ∃ T v, encI x = .iface T v := by
  unfold encI
  split
  · exact ⟨_, _, rfl⟩
  · split <;> exact ⟨_, _, rfl⟩
theorem infoS : (Try.prog.info? 99).map (fun i => (i.zero, i.size, i.bytes)) = some (some .nilIface, 1, 16) := by kernel_rfl
theorem infoO : (Try.prog.info? 69).map (fun i => (i.zero, i.size, i.bytes)) = some (some (.agg #[.int .i64 0, .string ByteArray.empty, .int .i64 0]), 3, 32) := by kernel_rfl
abbrev GrS (w wr : World) (v : Value) (l : List Op) : Prop := Grow w wr 99 1 encL v l
abbrev GrO (w wr : World) (v : Value) (l : List Op) : Prop := Grow w wr 69 3 encO v l
theorem fm1 (l : List Op) : (l.flatMap encL).length = l.length := by
  induction l with
  | nil => rfl
  | cons x l ih => rw [List.flatMap_cons, List.length_append, ih]; simp [encL]; omega
theorem fm3 (l : List Op) : (l.flatMap encO).length = l.length * 3 := by
  induction l with
  | nil => rfl
  | cons x l ih => rw [List.flatMap_cons, List.length_append, ih]; simp [encO]; omega
section
variable {w wr : World} {g n c : Nat} {a : List Op} {y z : Op}
/-- The last of a row of the call's own is set. -/
theorem GrS.set (h : GrS w wr (.slice (some ⟨g, 0, none⟩) n c) (a ++ [y])) (hn : n = (a ++ [y]).length) : GrS w (wr.setCell ⟨g, a.length, none⟩ (encI z)) (.slice (some ⟨g, 0, none⟩) n c) (a ++ [z]) := by
  subst hn
  have e1 : (a ++ [z]).length = (a ++ [y]).length := by simp
  have e2 : (a ++ [z]).flatMap encL = ((a ++ [y]).flatMap encL).set a.length (encI z) := by
    rw [List.flatMap_append, List.flatMap_append, List.set_append_right _ _ (by rw [fm1]; exact Nat.le_refl _), fm1]
    simp [encL]
  refine ⟨?_, fun b hb => ⟨(h.new b hb).1, by have := (h.new b hb).2; simp only [size_setCell]; exact this⟩, h.fr.setCell (p := ⟨g, a.length, none⟩) (.inr (h.new g rfl).1) _⟩
  rw [e1, e2]
  exact own_set h.own _ (by rw [fm1]; simp) _
theorem GrS.lt (h : GrS w wr (.slice (some ⟨g, 0, none⟩) n c) a) : g < wr.heap.size := (h.new g rfl).2
theorem GrS.at (h : GrS w wr (.slice (some ⟨g, 0, none⟩) n c) a) (hn : n = a.length) {k : Nat} (hk : k < a.length) : wr.cell? ⟨g, k, none⟩ = some (encI a[k]) := by
  subst hn
  have e : (a.flatMap encL)[k]? = some (encI a[k]) := by
    have := fm_get a encL 1 k 0 hk (fun _ _ => rfl) (by omega)
    rw [Nat.mul_one, Nat.add_zero] at this
    rw [this]; rfl
  have := h.own.cells (g := g) rfl k _ e
  rw [Addr.add_lit, Nat.zero_add] at this
  exact this
/-- The last op of a row of the call's own is set. -/
theorem GrO.set (h : GrO w wr (.slice (some ⟨g, 0, none⟩) n c) (a ++ [y])) (hn : n = (a ++ [y]).length) : GrO w (((wr.setCell ⟨g, a.length * 3, none⟩ (.int .i64 z.1)).setCell ⟨g, a.length * 3 + 1, none⟩ (.string ⟨z.2.1.toArray⟩)).setCell ⟨g, a.length * 3 + 2, none⟩ (.int .i64 z.2.2)) (.slice (some ⟨g, 0, none⟩) n c) (a ++ [z]) := by
  subst hn
  have e1 : (a ++ [z]).length = (a ++ [y]).length := by simp
  have hl : ((a ++ [y]).flatMap encO).length = a.length * 3 + 3 := by rw [fm3]; simp; omega
  have e2 : (a ++ [z]).flatMap encO = ((((a ++ [y]).flatMap encO).set (a.length * 3) (.int .i64 z.1)).set (a.length * 3 + 1) (.string ⟨z.2.1.toArray⟩)).set (a.length * 3 + 2) (.int .i64 z.2.2) := by
    rw [List.flatMap_append, List.flatMap_append]
    have hs : ∀ (xs ys : List Value) (k j : Nat) (u : Value), xs.length = k → (xs ++ ys).set (k + j) u = xs ++ ys.set j u := by
      intro xs ys k j u hk
      rw [List.set_append_right _ _ (by omega), hk]
      congr 2; omega
    have h0 := hs (a.flatMap encO) ([y].flatMap encO) (a.length * 3) 0 (.int .i64 z.1) (fm3 a)
    rw [Nat.add_zero] at h0
    rw [h0, hs _ _ _ 1 _ (fm3 a), hs _ _ _ 2 _ (fm3 a)]
    simp [encO]
  have hg := (h.new g rfl).1
  refine ⟨?_, fun b hb => ⟨(h.new b hb).1, by have := (h.new b hb).2; simp only [size_setCell]; exact this⟩, ((h.fr.setCell (p := ⟨g, _, none⟩) (.inr hg) _).setCell (p := ⟨g, _, none⟩) (.inr hg) _).setCell (p := ⟨g, _, none⟩) (.inr hg) _⟩
  rw [e1, e2]
  exact own_set (own_set (own_set h.own _ (by rw [hl]; omega) _) _ (by rw [List.length_set, hl]; omega) _) _ (by rw [List.length_set, List.length_set, hl]; omega) _
theorem GrO.lt (h : GrO w wr (.slice (some ⟨g, 0, none⟩) n c) a) : g < wr.heap.size := (h.new g rfl).2
theorem GrO.at (h : GrO w wr (.slice (some ⟨g, 0, none⟩) n c) a) (hn : n = a.length) {k : Nat} (hk : k < a.length) : wr.cell? ⟨g, k * 3, none⟩ = some (.int .i64 a[k].1) ∧ wr.cell? ⟨g, k * 3 + 1, none⟩ = some (.string ⟨a[k].2.1.toArray⟩) ∧ wr.cell? ⟨g, k * 3 + 2, none⟩ = some (.int .i64 a[k].2.2) := by
  subst hn
  have e : ∀ j u, j < 3 → (encO a[k])[j]? = some u → wr.cell? ⟨g, k * 3 + j, none⟩ = some u := by
    intro j u hj hu
    have := fm_get a encO 3 k j hk (fun _ _ => rfl) hj
    rw [hu] at this
    have := h.own.cells (g := g) rfl (k * 3 + j) _ this
    have e2 : (⟨g, 0, none⟩ : Addr).add (k * 3 + j) = ⟨g, k * 3 + j, none⟩ := by rw [Addr.add_lit, Nat.zero_add]
    rw [e2] at this
    exact this
  exact ⟨e 0 _ (by omega) rfl, e 1 _ (by omega) rfl, e 2 _ (by omega) rfl⟩
end
theorem gro_in {w wo wr : World} {ov : Value} {m acc : List Op} (h : GrO wo wr ov m) (e : m = acc) (f : Fr No w wo) : GrO w wr ov acc := by
  subst e
  exact ⟨h.own, fun b hb => ⟨Nat.le_trans f.size (h.new b hb).1, (h.new b hb).2⟩, f.then_no h.fr⟩
theorem rone_any (s : Str) (hs : s ≠ []) (hl : s.length ≤ 1000000) (w : World) : Calls Try.prog 48 #[.string ⟨s.toArray⟩] w (OneIs (stepR s) w) := by
  obtain ⟨c, hc⟩ : ∃ c, s.head? = some c := by cases s with | nil => exact absurd rfl hs | cons c t => exact ⟨c, rfl⟩
  by_cases h92 : c = 92
  · subst h92
    have hsz : 1 ≤ s.length := by cases s with | nil => exact absurd rfl hs | cons c t => simp
    by_cases h1 : s.length = 1
    · exact rone_loop s hc (.inl h1) hl w
    · have h1' : 1 < s.length := by omega
      by_cases hd : s[1] = 100
      · exact rone_d s hc h1' hd hl w
      · by_cases hz : s[1] = 122
        · exact rone_z s hc h1' hz hl w
        · exact rone_loop s hc (.inr ⟨h1', hd, hz⟩) hl w
  · exact rone_plain s c hc h92 hl w
/-- What stands behind a part of a text: what was read, and what is left. -/
structure Inv (s t : Str) (acc : List Op) : Prop where
  read : readL s [] = readL t acc
  fine : ∀ x ∈ acc, Fine x
  sumN : sumN acc + 99 * t.length ≤ 99 * s.length
  sumS : (allS acc).length + t.length ≤ s.length
  len : acc.length + t.length ≤ s.length
theorem Inv.start (s : Str) : Inv s s [] := ⟨rfl, fun x h => (by cases h), by simp [Brk.sumN], by simp [allS], by simp⟩
theorem push_fine {l : List Op} {x : Op} (hl : ∀ y ∈ l, Fine y) (hx : One x) : ∀ y ∈ push l x, Fine y := by
  intro y hy
  rcases push_cases l x with h | ⟨a, z, rfl, h1, h2, h⟩
  · rw [h] at hy
    rcases List.mem_append.1 hy with hy | hy
    · exact hl y hy
    · rw [List.mem_singleton.1 hy]; exact hx.fine
  · rw [h] at hy
    rcases List.mem_append.1 hy with hy | hy
    · exact hl y (List.mem_append_left _ hy)
    · rw [List.mem_singleton.1 hy]; exact (hl z (by simp)).join hx.fine h1 h2
theorem Inv.on {s t : Str} {acc : List Op} (h : Inv s t acc) (ht : t ≠ []) (hn : (stepR t).2 ≠ 0) : Inv s (t.drop (stepR t).2) (push acc (stepR t).1) := by
  obtain ⟨h1, h2⟩ := step_one t hn
  have hb := h1.bounds
  have a := h.sumN
  have b := h.sumS
  have d := h.len
  refine ⟨h.read.trans (readL_on acc ht hn), push_fine h.fine h1, ?_, ?_, ?_⟩
  · rw [push_sumN, List.length_drop]; omega
  · rw [push_allS, List.length_append, List.length_drop]; omega
  · have := push_len acc (stepR t).1; rw [List.length_drop]; omega
theorem Inv.bad {s t : Str} {acc : List Op} (h : Inv s t acc) (hs : s.length ≤ 255) (ht : t ≠ []) (hn : (stepR t).2 = 0) : readR s = ([], 3) := by
  unfold readR
  rw [if_neg (by omega), h.read, readL_bad acc ht hn]
theorem Inv.done {s : Str} {acc : List Op} (h : Inv s [] acc) (hs : s.length ≤ 255) : readR s = (acc, 0) := by
  unfold readR
  rw [if_neg (by omega), h.read]
  rfl
theorem Inv.el {s t : Str} {acc : List Op} (h : Inv s t acc) {x : Op} (hx : x ∈ acc) : x.2.1.length ≤ s.length ∧ 0 ≤ x.2.2 ∧ x.2.2 ≤ 99 * s.length := by
  obtain ⟨k, hk, rfl⟩ := List.getElem_of_mem hx
  have h1 := sumN_split acc (k + 1)
  have h2 := sumN_take hk
  have h3 : 0 ≤ Brk.sumN (acc.drop (k + 1)) := sumN_nn fun y hy => h.fine y (List.mem_of_mem_drop hy)
  have h4 : 0 ≤ Brk.sumN (acc.take k) := sumN_nn fun y hy => h.fine y (List.mem_of_mem_take hy)
  have h5 := congrArg List.length (allS_split acc (k + 1))
  rw [allS_take hk, List.length_append, List.length_append] at h5
  have a := h.sumN
  have b := h.sumS
  exact ⟨by omega, fine_nn (h.fine _ hx), by omega⟩
/-- What Read answers. -/
def ReadPost (r : List Op × Int) (w : World) (e : Ending) (w' : World) : Prop := ∃ v, e = .returned (.tuple #[v, .int .i64 r.2]) ∧ GrO w w' v r.1
end Brk
end Go.Proofs.Ytnfkkonmhinlcaa
