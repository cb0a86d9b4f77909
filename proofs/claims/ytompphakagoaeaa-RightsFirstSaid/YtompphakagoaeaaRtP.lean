/- Rights: what is asked, plain; elements of a configuration's rows. -/
import Derived.Test.YtompphakagoaeaaFqP
import Derived.Test.YtompphakagoaeaaWordMatch
import Derived.Test.YtompphakagoaeaaWordRMatch
namespace Go.Proofs.Ytompphakagoaeaa
open Go.RowKit
set_option linter.unusedVariables false
set_option linter.unusedSimpArgs false
namespace Conf
open Word
def accP (user console : Str) (a : Acc) : Bool := matchR a.1 console && matchR a.2.1 user
/-- What a user may do with a console. -/
def levelR (l : List Acc) (user console : Str) : Int := match l.find? (accP user console) with
  | none => 0
  | some a => a.2.2
/-- Where the first one stands for which something holds; -1: there is none. -/
def idxR {α : Type} (p : α → Bool) (l : List α) : Int := match l.findIdx? p with
  | none => -1
  | some i => i
/-- Where those stand for which something holds. -/
def plG {α : Type} (p : α → Bool) : Nat → List α → List Int
  | _, [] => []
  | k, x :: l => (if p x then [(k : Int)] else []) ++ plG p (k + 1) l
def placesR {α : Type} (p : α → Bool) (l : List α) : List Int := plG p 0 l
section
variable {α : Type} {p : α → Bool} {l : List α}
theorem pl_snoc (p : α → Bool) (l : List α) (x : α) (k : Nat) : plG p k (l ++ [x]) = plG p k l ++ (if p x then [((k + l.length : Nat) : Int)] else []) := by
  induction l generalizing k with
  | nil => simp [plG]
  | cons a l ih =>
    rw [List.cons_append, plG, ih, plG, List.append_assoc, List.length_cons, show k + 1 + l.length = k + (l.length + 1) by omega]
theorem places_take {k : Nat} (h : k < l.length) : placesR p (l.take (k + 1)) = placesR p (l.take k) ++ (if p l[k] then [(k : Int)] else []) := by
  unfold placesR
  rw [List.take_succ_eq_append_getElem h, pl_snoc, List.length_take, show 0 + min k l.length = k by omega]
theorem pl_len (p : α → Bool) (l : List α) (k : Nat) : (plG p k l).length ≤ l.length := by
  induction l generalizing k with
  | nil => simp [plG]
  | cons a l ih =>
    have := ih (k + 1)
    rw [plG, List.length_append, List.length_cons]
    split <;> simp <;> omega
theorem places_len (p : α → Bool) (l : List α) : (placesR p l).length ≤ l.length := pl_len p l 0
theorem pl_mem (p : α → Bool) (l : List α) (k : Nat) (n : Int) : n ∈ plG p k l ↔ ∃ (i : Nat) (h : i < l.length), n = ((k + i : Nat) : Int) ∧ p l[i] = true := by
  induction l generalizing k with
  | nil => simp [plG]
  | cons a l ih =>
    rw [plG, List.mem_append, ih]
    constructor
    · rintro (h | ⟨i, hi, e, hp⟩)
      · split at h
        · rename_i hp
          rw [List.mem_singleton] at h
          exact ⟨0, by simp, by rw [h]; simp, hp⟩
        · cases h
      · exact ⟨i + 1, by simp; omega, by rw [e]; congr 1; omega, by simpa using hp⟩
    · rintro ⟨i, hi, e, hp⟩
      cases i with
      | zero =>
        left
        simp only [List.getElem_cons_zero] at hp
        rw [if_pos hp, e]
        simp
      | succ i => exact .inr ⟨i, by simpa using hi, by rw [e]; congr 1; omega, by simpa using hp⟩
theorem places_mem (n : Int) : n ∈ placesR p l ↔ ∃ (i : Nat) (h : i < l.length), n = (i : Int) ∧ p l[i] = true := by
  unfold placesR
  rw [pl_mem]
  simp
theorem idx_at {k : Nat} (h : k < l.length) (hb : ∀ j (h : j < l.length), j < k → p l[j] = false) (he : p l[k] = true) : idxR p l = k := by
  unfold idxR
  have : l.findIdx? p = some k := by
    rw [List.findIdx?_eq_some_iff_getElem]
    exact ⟨h, he, fun j hj => by simpa using hb j (by omega) hj⟩
  rw [this]
theorem idx_none (hb : ∀ j (h : j < l.length), p l[j] = false) : idxR p l = -1 := by
  unfold idxR
  have : l.findIdx? p = none := by
    rw [List.findIdx?_eq_none_iff]
    intro x hx
    obtain ⟨j, hj, rfl⟩ := List.getElem_of_mem hx
    exact hb j hj
  rw [this]
theorem idx_cases (p : α → Bool) (l : List α) : (∀ j (h : j < l.length), p l[j] = false) ∨ ∃ (k : Nat) (h : k < l.length), p l[k] = true ∧ ∀ j (h : j < l.length), j < k → p l[j] = false := by
  cases h : l.findIdx? p with
  | none =>
    refine .inl fun j hj => ?_
    have := List.findIdx?_eq_none_iff.1 h l[j] (List.getElem_mem _)
    exact this
  | some k =>
    obtain ⟨h1, h2, h3⟩ := List.findIdx?_eq_some_iff_getElem.1 h
    exact .inr ⟨k, h1, h2, fun j hj hjk => by simpa using h3 j hjk⟩
end
theorem level_at {l : List Acc} {user console : Str} {k : Nat} (h : k < l.length) (hb : ∀ j (h : j < l.length), j < k → accP user console l[j] = false) (he : accP user console l[k] = true) : levelR l user console = l[k].2.2 := by
  unfold levelR
  have : l.find? (accP user console) = some l[k] := by
    rw [List.find?_eq_some_iff_getElem]
    exact ⟨he, k, h, rfl, fun j hj => by simpa using hb j (by omega) hj⟩
  rw [this]
theorem level_none {l : List Acc} {user console : Str} (hb : ∀ j (h : j < l.length), accP user console l[j] = false) : levelR l user console = 0 := by
  unfold levelR
  have : l.find? (accP user console) = none := by
    rw [List.find?_eq_none]
    intro x hx
    obtain ⟨j, hj, rfl⟩ := List.getElem_of_mem hx
    simpa using hb j hj
  rw [this]
/-! ### Elements of rows -/
/-- An element of a row, seen from a later world. -/
theorem el_at {α : Type} {n m c i : Nat} {R : Rd α} {w W : World} {S : Nat → Prop} {A : Option Addr} {l : List α} (h : RSl n R w S [.slice A m c] l) (hf : Fr No w W) (hS : ∀ k, S k → k < w.heap.size) (hi : i < l.length) :
    ∃ ad ecs, A = some ad ∧ (ad.add (i * n)).block < w.heap.size ∧ ecs.length = n ∧ (∀ j, j < n → W.cell? ((ad.add (i * n)).add j) = ecs[j]?) ∧ R w S ecs l[i] := by
  obtain ⟨ad, ecs, rfl, hs, hecs, hcell, hr⟩ := RSl.at_ h hi
  have hb : (ad.add (i * n)).block < w.heap.size := by rw [block_add]; exact hS _ hs
  exact ⟨ad, ecs, rfl, hb, hecs, fun j hj => (hf.cell (by rw [block_add]; exact hb) (fun h => h)).trans (hcell j hj), hr⟩
theorem qacc_open {w : World} {S : Nat → Prop} {cs : List Value} {x : Acc} (h : QAcc w S cs x) : cs = [.string ⟨x.1.toArray⟩, .string ⟨x.2.1.toArray⟩, .int .i64 x.2.2] ∧ x.1.length ≤ 40 ∧ x.2.1.length ≤ 40 ∧ (Lit.int .i64 x.2.2).wf = true := by
  obtain ⟨hl, ⟨h1, b1⟩, l2, ⟨h2, b2⟩, h3, b3⟩ := h
  exact ⟨by rw [← List.take_append_drop 1 cs, h1, ← List.take_append_drop 1 (cs.drop 1), h2, h3]; rfl, b1, b2, b3⟩
theorem qgrp_open {w : World} {S : Nat → Prop} {cs : List Value} {x : Grp} (h : QGrp w S cs x) : ∃ v, cs = [.string ⟨x.1.toArray⟩, v] ∧ x.1.length ≤ 40 ∧ RSl 1 RS40 w S [v] x.2 := by
  obtain ⟨hl, ⟨h1, b1⟩, h2⟩ := h
  obtain ⟨A, cap, h3, _⟩ := id h2
  exact ⟨_, by rw [← List.take_append_drop 1 cs, h1, h3]; rfl, b1, h3 ▸ h2⟩
theorem qusr_open {w : World} {S : Nat → Prop} {cs : List Value} {x : Usr} (h : QUsr w S cs x) : cs = [.string ⟨x.1.toArray⟩, .string ⟨x.2.toArray⟩] ∧ x.1.length ≤ 40 ∧ x.2.length ≤ 40 := by
  obtain ⟨hl, ⟨h1, b1⟩, h2, b2⟩ := h
  exact ⟨by rw [← List.take_append_drop 1 cs, h1, h2]; rfl, b1, b2⟩
theorem qcon_open {w : World} {S : Nat → Prop} {cs : List Value} {x : Con} (h : QCon w S cs x) : ∃ (n1 n2 n3 n4 n5 n6 n7 n8 : Int) (b : Str), cs = [.string ⟨x.1.toArray⟩, .int .i64 n1, .int .i64 n2, .int .i64 n3, .int .i64 n4, .int .i64 n5, .int .i64 n6, .int .i64 n7, .int .i64 n8, .string ⟨b.toArray⟩] ∧ x.1.length ≤ 40 := by
  obtain ⟨hl, ⟨h1, b1⟩, h⟩ := h
  obtain ⟨l2, ⟨h2, b2⟩, h⟩ := h
  obtain ⟨l3, ⟨h3, b3⟩, h⟩ := h
  obtain ⟨l4, ⟨h4, b4⟩, h⟩ := h
  obtain ⟨l5, ⟨h5, b5⟩, h⟩ := h
  obtain ⟨l6, ⟨h6, b6⟩, h⟩ := h
  obtain ⟨l7, ⟨h7, b7⟩, h⟩ := h
  obtain ⟨l8, ⟨h8, b8⟩, h⟩ := h
  obtain ⟨l9, ⟨h9, b9⟩, h10, b10⟩ := h
  refine ⟨x.2.1, x.2.2.1, x.2.2.2.1, x.2.2.2.2.1, x.2.2.2.2.2.1, x.2.2.2.2.2.2.1, x.2.2.2.2.2.2.2.1, x.2.2.2.2.2.2.2.2.1, x.2.2.2.2.2.2.2.2.2, ?_, b1⟩
  have t : ∀ (l : List Value), l.take 1 ++ l.drop 1 = l := fun l => List.take_append_drop 1 l
  rw [← t cs, h1, ← t (cs.drop 1), h2, ← t ((cs.drop 1).drop 1), h3, ← t (((cs.drop 1).drop 1).drop 1), h4, ← t ((((cs.drop 1).drop 1).drop 1).drop 1), h5, ← t (((((cs.drop 1).drop 1).drop 1).drop 1).drop 1), h6,
    ← t ((((((cs.drop 1).drop 1).drop 1).drop 1).drop 1).drop 1), h7, ← t (((((((cs.drop 1).drop 1).drop 1).drop 1).drop 1).drop 1).drop 1), h8, ← t ((((((((cs.drop 1).drop 1).drop 1).drop 1).drop 1).drop 1).drop 1).drop 1), h9, h10]
  rfl
theorem q_open {w : World} {S : Nat → Prop} {cs : Array Value} {x : C} (h : QConf w S cs.toList x) : ∃ vC vG vU vA : Value, ∃ bs : List Value, cs = (vC :: vG :: vU :: vA :: bs).toArray ∧ RSq 10 QCon w S [vC] x.1 ∧ RSq 2 QGrp w S [vG] x.2.1 ∧ RSq 2 QUsr w S [vU] x.2.2.1 ∧ RSq 3 QAcc w S [vA] x.2.2.2.1 ∧
    RArr 10 1 RStr w S bs x.2.2.2.2 := by
  obtain ⟨l1, h1, h⟩ := h
  obtain ⟨l2, h2, h⟩ := h
  obtain ⟨l3, h3, h⟩ := h
  obtain ⟨l4, h4, h⟩ := h
  match hcs : cs.toList, l1, l2, l3, l4 with
  | a :: b :: c :: d :: bs, _, _, _, _ =>
    rw [hcs] at h1 h2 h3 h4 h
    exact ⟨a, b, c, d, bs, by rw [← hcs], by simpa using h1, by simpa using h2, by simpa using h3, by simpa using h4, by simpa using h⟩
  | [], h, _, _, _ => simp [hcs] at h
  | [_], _, h, _, _ => simp [hcs] at h
  | [_, _], _, _, h, _ => simp [hcs] at h
  | [_, _, _], _, _, _, h => simp [hcs] at h
/-- An access of a row. -/
theorem acc_at {w W : World} {S : Nat → Prop} {A : Option Addr} {m c i : Nat} {l : List Acc} (h : RSq 3 QAcc w S [.slice A m c] l) (hf : Fr No w W) (hS : ∀ k, S k → k < w.heap.size) (hi : i < l.length) :
    ∃ ad, A = some ad ∧ (ad.add (i * 3)).block < w.heap.size ∧ W.cell? (ad.add (i * 3)) = some (.string ⟨l[i].1.toArray⟩) ∧ W.cell? ⟨(ad.add (i * 3)).block, (ad.add (i * 3)).off + 1, none⟩ = some (.string ⟨l[i].2.1.toArray⟩) ∧
      W.cell? ⟨(ad.add (i * 3)).block, (ad.add (i * 3)).off + 2, none⟩ = some (.int .i64 l[i].2.2) ∧ l[i].1.length ≤ 40 ∧ l[i].2.1.length ≤ 40 := by
  obtain ⟨ad, ecs, rfl, hb, hecs, hcell, hr⟩ := el_at h.1 hf hS hi
  obtain ⟨rfl, b1, b2, -⟩ := qacc_open hr
  have c0 := hcell 0 (by omega)
  rw [add_zero] at c0
  exact ⟨ad, rfl, hb, c0, hcell 1 (by omega), hcell 2 (by omega), b1, b2⟩
/-- The name of a console of a row. -/
theorem con_at {w W : World} {S : Nat → Prop} {A : Option Addr} {m c i : Nat} {l : List Con} (h : RSq 10 QCon w S [.slice A m c] l) (hf : Fr No w W) (hS : ∀ k, S k → k < w.heap.size) (hi : i < l.length) :
    ∃ (ad : Addr) (n1 n2 n3 n4 n5 n6 n7 n8 : Int) (b : Str), A = some ad ∧ (ad.add (i * 10)).block < w.heap.size ∧ W.cell? (ad.add (i * 10)) = some (.string ⟨l[i].1.toArray⟩) ∧ W.cell? ⟨(ad.add (i * 10)).block, (ad.add (i * 10)).off + 1, none⟩ = some (.int .i64 n1) ∧
      W.cell? ⟨(ad.add (i * 10)).block, (ad.add (i * 10)).off + 2, none⟩ = some (.int .i64 n2) ∧ W.cell? ⟨(ad.add (i * 10)).block, (ad.add (i * 10)).off + 3, none⟩ = some (.int .i64 n3) ∧ W.cell? ⟨(ad.add (i * 10)).block, (ad.add (i * 10)).off + 4, none⟩ = some (.int .i64 n4) ∧
      W.cell? ⟨(ad.add (i * 10)).block, (ad.add (i * 10)).off + 5, none⟩ = some (.int .i64 n5) ∧ W.cell? ⟨(ad.add (i * 10)).block, (ad.add (i * 10)).off + 6, none⟩ = some (.int .i64 n6) ∧ W.cell? ⟨(ad.add (i * 10)).block, (ad.add (i * 10)).off + 7, none⟩ = some (.int .i64 n7) ∧
      W.cell? ⟨(ad.add (i * 10)).block, (ad.add (i * 10)).off + 8, none⟩ = some (.int .i64 n8) ∧ W.cell? ⟨(ad.add (i * 10)).block, (ad.add (i * 10)).off + 9, none⟩ = some (.string ⟨b.toArray⟩) ∧ l[i].1.length ≤ 40 := by
  obtain ⟨ad, ecs, rfl, hb, hecs, hcell, hr⟩ := el_at h.1 hf hS hi
  obtain ⟨n1, n2, n3, n4, n5, n6, n7, n8, b, rfl, b1⟩ := qcon_open hr
  have c0 := hcell 0 (by omega)
  rw [add_zero] at c0
  exact ⟨ad, n1, n2, n3, n4, n5, n6, n7, n8, b, rfl, hb, c0, hcell 1 (by omega), hcell 2 (by omega), hcell 3 (by omega), hcell 4 (by omega), hcell 5 (by omega), hcell 6 (by omega), hcell 7 (by omega), hcell 8 (by omega), hcell 9 (by omega), b1⟩
/-- A group of a row. -/
theorem grp_at {w W : World} {S : Nat → Prop} {A : Option Addr} {m c i : Nat} {l : List Grp} (h : RSq 2 QGrp w S [.slice A m c] l) (hf : Fr No w W) (hS : ∀ k, S k → k < w.heap.size) (hi : i < l.length) :
    ∃ ad v, A = some ad ∧ (ad.add (i * 2)).block < w.heap.size ∧ W.cell? (ad.add (i * 2)) = some (.string ⟨l[i].1.toArray⟩) ∧ W.cell? ⟨(ad.add (i * 2)).block, (ad.add (i * 2)).off + 1, none⟩ = some v ∧ RSl 1 RS40 w S [v] l[i].2 ∧ l[i].1.length ≤ 40 := by
  obtain ⟨ad, ecs, rfl, hb, hecs, hcell, hr⟩ := el_at h.1 hf hS hi
  obtain ⟨v, rfl, b1, h2⟩ := qgrp_open hr
  have c0 := hcell 0 (by omega)
  rw [add_zero] at c0
  exact ⟨ad, v, rfl, hb, c0, hcell 1 (by omega), h2, b1⟩
/-- A text of a row. -/
theorem s40_at {w W : World} {S : Nat → Prop} {A : Option Addr} {m c i : Nat} {l : List Str} (h : RSl 1 RS40 w S [.slice A m c] l) (hf : Fr No w W) (hS : ∀ k, S k → k < w.heap.size) (hi : i < l.length) :
    ∃ ad, A = some ad ∧ (ad.add i).block < w.heap.size ∧ W.cell? (ad.add i) = some (.string ⟨l[i].toArray⟩) ∧ l[i].length ≤ 40 := by
  obtain ⟨ad, ecs, rfl, hb, hecs, hcell, rfl, b1⟩ := el_at h hf hS hi
  have c0 := hcell 0 (by omega)
  rw [add_zero, Nat.mul_one] at c0
  rw [Nat.mul_one] at hb
  exact ⟨ad, rfl, hb, c0, b1⟩
/-- What the looser readings ask. -/
theorem s40_str {w : World} {S : Nat → Prop} {cs : List Value} {l : List Str} (h : RSl 1 RS40 w S cs l) : RSl 1 RStr w S cs l := by
  obtain ⟨A, cap, h1, h2, h3, h4, h5⟩ := h
  refine ⟨A, cap, h1, h2, h3, h4, fun i hi => ?_⟩
  obtain ⟨ad, ecs, g1, g2, g3, g4, g5, g6⟩ := h5 i hi
  exact ⟨ad, ecs, g1, g2, g3, g4, g5, by unfold maxLen; omega⟩
end Conf
end Go.Proofs.Ytompphakagoaeaa
