/- Package timer, in plain terms: who is waited for, the earliest first. No program in sight. -/
import Derived.Test.YtkmlmjglipmdcaaTmP
namespace Go.Proofs.Ytkmlmjglipmdcaa
open Go.RowKit
set_option linter.unusedVariables false
set_option linter.unusedSimpArgs false
namespace Tm
/-- Who, and when. -/
abbrev A2 := Int × Int
def lt2 (x y : A2) : Bool := if x.2 = y.2 then decide (x.1 < y.1) else decide (x.2 < y.2)
theorem lt_lt2 (x y : E) : lt x y = lt2 x.2 y.2 := rfl
theorem lt2_iff {x y : A2} : lt2 x y = true ↔ x.2 < y.2 ∨ x.2 = y.2 ∧ x.1 < y.1 := lt_iff (x := (0, x)) (y := (0, y))
theorem lt2_not {x y : A2} : lt2 x y = false ↔ y.2 < x.2 ∨ y.2 = x.2 ∧ y.1 ≤ x.1 := lt_not (x := (0, x)) (y := (0, y))
theorem lt2_irr (x : A2) : lt2 x x = false := by rw [lt2_not]; omega
theorem lt2_trans {x y z : A2} (h : lt2 x y = true) (k : lt2 y z = true) : lt2 x z = true := by rw [lt2_iff] at *; omega
theorem lt2_tot {x y : A2} (h : x.1 ≠ y.1) : lt2 x y = true ∨ lt2 y x = true := by rw [lt2_iff, lt2_iff]; omega
def Srt (L : List A2) : Prop := L.Pairwise (fun a b => lt2 a b = true)
def ids (L : List A2) : List Int := L.map (·.1)
def hasId (L : List A2) (id : Int) : Bool := L.any (fun m => m.1 == id)
theorem has_iff {L : List A2} {id : Int} : hasId L id = true ↔ id ∈ ids L := by
  unfold hasId ids
  rw [List.any_eq_true, List.mem_map]
  exact ⟨fun ⟨m, hm, h⟩ => ⟨m, hm, by simpa using h⟩, fun ⟨m, hm, h⟩ => ⟨m, hm, by simpa using h⟩⟩
def wo (L : List A2) (id : Int) : List A2 := L.filter (fun m => m.1 != id)
def ins (x : A2) (L : List A2) : List A2 := L.takeWhile (fun m => lt2 m x) ++ x :: L.dropWhile (fun m => lt2 m x)
def setR (most : Int) (L : List A2) (id t : Int) : List A2 × Int :=
  if t < 0 ∨ 1099511627776 < t then (L, 1) else if hasId L id = false ∧ most ≤ L.length then (L, 6) else (ins (id, t) (wo L id), 0)
def cancelR (L : List A2) (id : Int) : List A2 × Bool := (wo L id, hasId L id)
def atR (L : List A2) (id : Int) : Int × Bool := match L.find? (fun m => m.1 == id) with | some m => (m.2, true) | none => (0, false)
def dueL (L : List A2) (now : Int) : List A2 := L.takeWhile (fun m => decide (m.2 ≤ now))
def restL (L : List A2) (now : Int) : List A2 := L.dropWhile (fun m => decide (m.2 ≤ now))
theorem wo_srt {L : List A2} (h : Srt L) (id : Int) : Srt (wo L id) := List.Pairwise.filter _ h
theorem wo_none {L : List A2} {id : Int} (h : id ∉ ids L) : wo L id = L := by
  unfold wo
  rw [List.filter_eq_self]
  intro m hm
  simp
  rintro rfl
  exact h (List.mem_map.2 ⟨m, hm, rfl⟩)
theorem wo_not (L : List A2) (id : Int) : id ∉ ids (wo L id) := by
  unfold wo ids
  rw [List.mem_map]
  rintro ⟨m, hm, e⟩
  have := (List.mem_filter.1 hm).2
  simp [e] at this
theorem ins_perm (x : A2) (L : List A2) : (ins x L).Perm (x :: L) := by
  unfold ins
  refine List.perm_middle.trans ?_
  rw [List.takeWhile_append_dropWhile]
theorem dropWhile_head {α : Type} {p : α → Bool} : ∀ {l : List α} {y : α} {t : List α}, l.dropWhile p = y :: t → p y = false
  | [], _, _, h => by simp at h
  | a :: l, y, t, h => by
    by_cases e : p a = true
    · rw [List.dropWhile_cons_of_pos e] at h
      exact dropWhile_head h
    · rw [List.dropWhile_cons_of_neg e] at h
      injection h with h _
      rw [← h]
      simpa using e
theorem takeWhile_all {α : Type} {p : α → Bool} : ∀ {l : List α} {a : α}, a ∈ l.takeWhile p → p a = true
  | [], _, h => by simp at h
  | b :: l, a, h => by
    by_cases e : p b = true
    · rw [List.takeWhile_cons_of_pos e] at h
      rcases List.mem_cons.1 h with g | g
      · rw [g]; exact e
      · exact takeWhile_all g
    · rw [List.takeWhile_cons_of_neg e] at h; cases h
theorem ins_srt {x : A2} {L : List A2} (h : Srt L) (hx : x.1 ∉ ids L) : Srt (ins x L) := by
  have hall : ∀ a ∈ L.takeWhile (fun m => lt2 m x), lt2 a x = true := fun a ha => takeWhile_all (p := fun m => lt2 m x) ha
  have hs : Srt (L.takeWhile (fun m => lt2 m x) ++ L.dropWhile (fun m => lt2 m x)) := by rw [List.takeWhile_append_dropWhile]; exact h
  have hp := List.pairwise_append.1 hs
  have hdr : ∀ a ∈ L.dropWhile (fun m => lt2 m x), lt2 x a = true := fun a ha => by
    cases hd : L.dropWhile (fun m => lt2 m x) with
    | nil => rw [hd] at ha; cases ha
    | cons y t =>
      have hy := dropWhile_head hd
      have hyL : y ∈ L := List.dropWhile_subset _ (by rw [hd]; simp)
      have hne : x.1 ≠ y.1 := fun e => hx (List.mem_map.2 ⟨y, hyL, e.symm⟩)
      have hxy : lt2 x y = true := (lt2_tot hne).resolve_right (by rw [hy]; simp)
      rw [hd] at ha
      rcases List.mem_cons.1 ha with e | ha
      · rw [e]; exact hxy
      · have h2 := hp.2.1
        rw [hd] at h2
        exact lt2_trans hxy ((List.pairwise_cons.1 h2).1 a ha)
  unfold ins
  refine List.pairwise_append.2 ⟨hp.1, List.pairwise_cons.2 ⟨hdr, hp.2.1⟩, fun a ha b hb => ?_⟩
  rcases List.mem_cons.1 hb with e | hb
  · rw [e]; exact hall a ha
  · exact hp.2.2 a ha b hb
theorem srt_ids {L : List A2} (h : (ids L).Nodup) {x y : A2} (hx : x ∈ L) (hy : y ∈ L) (e : x.1 = y.1) : x = y := by
  induction L with
  | nil => cases hx
  | cons a L ih =>
    have h' : a.1 ∉ ids L ∧ (ids L).Nodup := List.nodup_cons.1 h
    rcases List.mem_cons.1 hx with e1 | hx
    · rcases List.mem_cons.1 hy with e2 | hy
      · rw [e1, e2]
      · exact absurd (List.mem_map.2 ⟨y, hy, by rw [← e, e1]⟩) h'.1
    · rcases List.mem_cons.1 hy with e2 | hy
      · exact absurd (List.mem_map.2 ⟨x, hx, by rw [e, e2]⟩) h'.1
      · exact ih h'.2 hx hy
/-- The heap's root is the first. -/
theorem root_head {P : List E} {L : List A2} (hp : (P.map (·.2)).Perm L) (hs : Srt L) (ho : Ok (at' P) P.length) (h0 : 0 < P.length) : ∃ t, L = (at' P 0).2 :: t := by
  cases L with
  | nil =>
    have := hp.length_eq
    rw [List.length_map, List.length_nil] at this
    omega
  | cons y t =>
    have hy : y ∈ P.map (·.2) := hp.mem_iff.2 (by simp)
    obtain ⟨q, hq, hqe⟩ := List.mem_map.1 hy
    obtain ⟨k, hk, hke⟩ := List.getElem_of_mem hq
    have h1 := root_min ho k hk
    rw [at_get hk, hke, lt_lt2, hqe] at h1
    have hm : (at' P 0).2 ∈ y :: t := hp.mem_iff.1 (List.mem_map.2 ⟨at' P 0, by rw [at_get h0]; exact List.getElem_mem h0, rfl⟩)
    rcases List.mem_cons.1 hm with e | hm
    · exact ⟨t, by rw [e]⟩
    · have := (List.pairwise_cons.1 hs).1 _ hm
      rw [this] at h1
      cases h1
theorem erase_perm {α : Type} : ∀ {l : List α} {i : Nat} (h : i < l.length), (l[i] :: l.eraseIdx i).Perm l
  | a :: l, 0, _ => List.Perm.refl _
  | a :: l, i + 1, h => have h' : i < l.length := by simpa using h
    ((List.Perm.swap a l[i] _).trans ((erase_perm (l := l) (i := i) h').cons a))
theorem head_perm {α β : Type} (f : α → β) {P : List α} {i : Nat} (h : i < P.length) : (P.map f).Perm (f P[i] :: (P.eraseIdx i).map f) := by
  have := (erase_perm h).map f
  rw [List.map_cons] at this
  exact this.symm
theorem filter_perm {P : List A2} {x : A2} {R L : List A2} (hR : (x :: R).Perm P) (hn : (ids P).Nodup) (hp : P.Perm L) : R.Perm (wo L x.1) := by
  have h1 := ((hR.trans hp).filter (fun m => m.1 != x.1))
  have hids : (ids (x :: R)).Nodup := (List.Perm.nodup_iff (hR.map (fun m : A2 => m.1))).2 hn
  have h2 : (x :: R).filter (fun m => m.1 != x.1) = R := by
    rw [List.filter_cons_of_neg (by simp)]
    exact wo_none (List.nodup_cons.1 hids).1
  rw [h2] at h1
  exact h1
end Tm
end Go.Proofs.Ytkmlmjglipmdcaa
