/- Package seat in plain terms: who is there, who writes, who waits; each act, and what stays so. No program in sight. -/
import Derived.Test.YtepnjmgacfjhiaaRef29
namespace Go.Proofs.Ytepnjmgacfjhiaa
open Go.RowKit
set_option linter.unusedVariables false
set_option linter.unusedSimpArgs false
namespace Seat
/-- Who is there, and what they may do; how many may be; who writes (-1: nobody); who waits. -/
structure St where
  L : List (Int × Int)
  most : Int
  wr : Int
  q : List Int
abbrev Sh := List (Int × Int)
def thereB (L : Sh) (id : Int) : Bool := L.any (fun m => m.1 == id)
def levelR (L : Sh) (id : Int) : Int := match L.find? (fun m => m.1 == id) with | some m => m.2 | none => -1
def placeM (L : Sh) (id : Int) : Int := match L.findIdx? (fun m => m.1 == id) with | some i => (i : Int) | none => -1
def without (q : List Int) (id : Int) : List Int := q.filter (· != id)
def becomeR (s : St) (id : Int) : St × Sh := (⟨s.L, s.most, id, without s.q id⟩, (if 0 ≤ s.wr then [(s.wr, 1)] else []) ++ [(id, 2)])
def comeC (s : St) (id level : Int) : Int := if id < 0 then 1 else if thereB s.L id = true then 8 else if level < 1 then 10 else if s.most ≤ s.L.length then 6 else 0
def comeS (s : St) (id level : Int) : St := ⟨s.L ++ [(id, level)], s.most, s.wr, s.q⟩
def comeR (s : St) (id level : Int) (call : Bool) : St × Sh × Int :=
  if comeC s id level ≠ 0 then (s, [], comeC s id level)
  else if call = true ∧ s.wr < 0 ∧ 2 ≤ level then (⟨s.L ++ [(id, level)], s.most, id, s.q⟩, [(id, 2)], 0) else (comeS s id level, [(id, 1)], 0)
def wantsR (s : St) (id : Int) : Int := if thereB s.L id = false then 7 else if s.wr = id then 9 else if levelR s.L id < 2 then 10 else 0
def askR (s : St) (id : Int) : St × Sh × Int :=
  if wantsR s id ≠ 0 then (s, [], wantsR s id) else if s.wr < 0 then ((becomeR s id).1, (becomeR s id).2, 0)
  else if (Qint.putR s.q s.most id).2 ≠ 0 then (s, [], (Qint.putR s.q s.most id).2) else (⟨s.L, s.most, s.wr, (Qint.putR s.q s.most id).1⟩, [(id, 3)], 0)
def takeB (s : St) (id : Int) (force : Bool) : Bool := if force = true then decide (levelR s.L id < 3) else decide (0 ≤ s.wr ∧ levelR s.L id ≤ levelR s.L s.wr)
def takeR (s : St) (id : Int) (force : Bool) : St × Sh × Int :=
  if wantsR s id ≠ 0 then (s, [], wantsR s id) else if takeB s id force = true then (s, [], 10) else ((becomeR s id).1, (becomeR s id).2, 0)
def nextR (s : St) : St × Sh := match s.q with
  | [] => (⟨s.L, s.most, -1, []⟩, [])
  | x :: _ => becomeR ⟨s.L, s.most, -1, s.q⟩ x
def yieldR (s : St) (id : Int) : St × Sh × Int :=
  if thereB s.L id = false then (s, [], 7) else if s.wr ≠ id then (s, [], 9) else ((nextR s).1, (id, 1) :: (nextR s).2, 0)
def gone (s : St) (id : Int) : St := ⟨s.L.filter (fun m => m.1 != id), s.most, s.wr, without s.q id⟩
def leaveR (s : St) (id : Int) : St × Sh × Int :=
  if thereB s.L id = false then (s, [], 7) else if s.wr ≠ id then (gone s id, [(id, 0)], 0) else ((nextR (gone s id)).1, (id, 0) :: (nextR (gone s id)).2, 0)
def roleR (s : St) (id : Int) : Int := if thereB s.L id = false then 0 else if s.wr = id then 2 else if 0 ≤ place s.q id then 3 else 1
/-! ### Words for members -/
theorem there_iff {L : Sh} {id : Int} : thereB L id = true ↔ id ∈ L.map (·.1) := by
  unfold thereB
  rw [List.any_eq_true, List.mem_map]
  constructor
  · rintro ⟨m, hm, h⟩; exact ⟨m, hm, by simpa using h⟩
  · rintro ⟨m, hm, h⟩; exact ⟨m, hm, by simpa using h⟩
theorem there_not {L : Sh} {id : Int} : thereB L id = false ↔ id ∉ L.map (·.1) := by
  rw [← there_iff]
  cases thereB L id <;> simp
theorem placeM_cases (L : Sh) (id : Int) : (placeM L id = -1 ∧ thereB L id = false ∧ ∀ j (h : j < L.length), (L[j].1 == id) = false) ∨
    ∃ k, ∃ h : k < L.length, placeM L id = (k : Int) ∧ thereB L id = true ∧ L[k].1 = id ∧ levelR L id = L[k].2 ∧ ∀ j (h : j < L.length), j < k → (L[j].1 == id) = false := by
  cases hf : L.findIdx? (fun m => m.1 == id) with
  | none =>
    left
    have hn := List.findIdx?_eq_none_iff.1 hf
    refine ⟨by unfold placeM; rw [hf], ?_, fun j h => by simpa using hn _ (List.getElem_mem h)⟩
    rw [there_not, List.mem_map]
    rintro ⟨m, hm, h⟩
    have := hn m hm
    rw [h] at this
    simp at this
  | some k =>
    right
    obtain ⟨h, h1, h2⟩ := List.findIdx?_eq_some_iff_getElem.1 hf
    have h3 : L[k].1 = id := by simpa using h1
    refine ⟨k, h, by unfold placeM; rw [hf], there_iff.2 (List.mem_map.2 ⟨_, List.getElem_mem h, h3⟩), h3, ?_, fun j hj hk => by simpa using h2 j hk⟩
    have hg : L.find? (fun m => m.1 == id) = some L[k] := by
      rw [List.find?_eq_some_iff_getElem]
      exact ⟨h1, k, h, rfl, fun j hj => by simpa using h2 j hj⟩
    unfold levelR
    rw [hg]
/-- What is always so. -/
structure Inv (s : St) : Prop where
  most : 1 ≤ s.most ∧ s.most ≤ 4096
  len : (s.L.length : Int) ≤ s.most
  nodup : (s.L.map (·.1)).Nodup
  pos : ∀ m ∈ s.L, 0 ≤ m.1
  wf : ∀ m ∈ s.L, (Lit.int .i64 m.1).wf = true ∧ (Lit.int .i64 m.2).wf = true
  qnodup : s.q.Nodup
  qlen : (s.q.length : Int) ≤ s.most
  qin : ∀ x ∈ s.q, thereB s.L x = true ∧ 2 ≤ levelR s.L x ∧ x ≠ s.wr
  wr : s.wr = -1 ∧ s.q = [] ∨ thereB s.L s.wr = true ∧ 2 ≤ levelR s.L s.wr
theorem Inv.new {most : Int} (h : 1 ≤ most ∧ most ≤ 4096) : Inv ⟨[], most, -1, []⟩ := ⟨h, by simp; omega, by simp, by simp, by simp, by simp, by simp; omega, by simp, .inl ⟨rfl, rfl⟩⟩
section
variable {s : St}
theorem Inv.pos_of (h : Inv s) {id : Int} (ht : thereB s.L id = true) : 0 ≤ id := by
  obtain ⟨m, hm, rfl⟩ := List.mem_map.1 (there_iff.1 ht)
  exact h.pos m hm
theorem Inv.wf_of (h : Inv s) {id : Int} (ht : thereB s.L id = true) : (Lit.int .i64 id).wf = true := by
  obtain ⟨m, hm, rfl⟩ := List.mem_map.1 (there_iff.1 ht)
  exact (h.wf m hm).1
theorem Inv.wr_cases (h : Inv s) : s.wr = -1 ∧ s.q = [] ∨ 0 ≤ s.wr ∧ thereB s.L s.wr = true ∧ 2 ≤ levelR s.L s.wr := h.wr.elim .inl (fun g => .inr ⟨h.pos_of g.1, g⟩)
theorem Inv.held (h : Inv s) : (s.wr != -1) = decide (0 ≤ s.wr) := by
  rcases h.wr_cases with ⟨e, _⟩ | ⟨e, _⟩
  · rw [e]; rfl
  · rw [decide_eq_true e]; simp; omega
theorem Inv.wr_wf (h : Inv s) : (Lit.int .i64 s.wr).wf = true := by
  rcases h.wr with ⟨e, _⟩ | ⟨e, _⟩
  · rw [e]; rfl
  · exact h.wf_of e
theorem erase_without (h : Inv s) (id : Int) : s.q.erase id = without s.q id := by
  unfold without
  rw [h.qnodup.erase_eq_filter]
theorem without_not {q : List Int} {id : Int} (h : id ∉ q) : without q id = q := by
  unfold without
  rw [List.filter_eq_self]
  intro x hx
  simp
  rintro rfl
  exact h hx
theorem without_len {q : List Int} {id most : Int} (h : (q.length : Int) ≤ most) : ((without q id).length : Int) ≤ most := by
  have := List.length_filter_le (fun x => x != id) q
  unfold without
  omega
theorem Inv.wr_not (h : Inv s) : s.wr ∉ s.q := fun hx => (h.qin _ hx).2.2 rfl
/-! ### Acts keep it -/
theorem there_app (L : Sh) (m : Int × Int) (id : Int) : thereB (L ++ [m]) id = (thereB L id || m.1 == id) := by simp [thereB]
theorem level_app {L : Sh} {m : Int × Int} {id : Int} (h : thereB L id = true) : levelR (L ++ [m]) id = levelR L id := by
  unfold levelR
  rw [List.find?_append]
  cases hf : L.find? (fun m => m.1 == id) with
  | some x => rfl
  | none =>
    have := List.find?_eq_none.1 hf
    obtain ⟨x, hx, e⟩ := List.mem_map.1 (there_iff.1 h)
    have := this x hx
    simp [e] at this
theorem level_new {L : Sh} {id level : Int} (h : thereB L id = false) : levelR (L ++ [(id, level)]) id = level := by
  unfold levelR
  rw [List.find?_append]
  have : L.find? (fun m => m.1 == id) = none := by
    rw [List.find?_eq_none]
    intro x hx
    have := there_not.1 h
    simp
    rintro rfl
    exact this (List.mem_map.2 ⟨x, hx, rfl⟩)
  rw [this]
  simp
theorem Inv.comes (h : Inv s) {id level : Int} (hc : comeC s id level = 0) (hi : (Lit.int .i64 id).wf = true) (hl : (Lit.int .i64 level).wf = true) : Inv (comeS s id level) ∧ 0 ≤ id ∧ thereB s.L id = false ∧ (s.L.length : Int) < s.most := by
  unfold comeC at hc
  split at hc
  · cases hc
  · split at hc
    · cases hc
    · split at hc
      · cases hc
      · split at hc
        · cases hc
        · rename_i h1 h2 h3 h4
          have ht : thereB s.L id = false := by simpa using h2
          refine ⟨⟨h.most, by simp [comeS]; omega, ?_, ?_, ?_, h.qnodup, h.qlen, ?_, ?_⟩, by omega, ht, by omega⟩
          · show (List.map (·.1) (s.L ++ [(id, level)])).Nodup
            rw [List.map_append, List.nodup_append]
            refine ⟨h.nodup, by simp, ?_⟩
            intro a ha b hb e
            simp at hb
            subst e hb
            exact there_not.1 ht ha
          · intro m hm
            rcases List.mem_append.1 hm with hm | hm
            · exact h.pos m hm
            · rw [List.mem_singleton.1 hm]; show 0 ≤ id; omega
          · intro m hm
            rcases List.mem_append.1 hm with hm | hm
            · exact h.wf m hm
            · rw [List.mem_singleton.1 hm]; exact ⟨hi, hl⟩
          · intro x hx
            obtain ⟨g1, g2, g3⟩ := h.qin x hx
            exact ⟨by show thereB (s.L ++ _) x = true; rw [there_app, g1]; rfl, by show 2 ≤ levelR (s.L ++ _) x; rw [level_app g1]; exact g2, g3⟩
          · rcases h.wr with g | ⟨g1, g2⟩
            · exact .inl g
            · exact .inr ⟨by show thereB (s.L ++ _) s.wr = true; rw [there_app, g1]; rfl, by show 2 ≤ levelR (s.L ++ _) s.wr; rw [level_app g1]; exact g2⟩
theorem Inv.becomes (h : Inv s) {id : Int} (ht : thereB s.L id = true) (hl : 2 ≤ levelR s.L id) (hw : s.wr ≠ id) : Inv (becomeR s id).1 :=
  ⟨h.most, h.len, h.nodup, h.pos, h.wf, h.qnodup.filter _, without_len h.qlen, fun x hx => by
    have hx := List.mem_filter.1 hx
    obtain ⟨g1, g2, g3⟩ := h.qin x hx.1
    exact ⟨g1, g2, show x ≠ id by simpa using hx.2⟩, .inr ⟨ht, hl⟩⟩
end
theorem wants_yes {s : St} {id : Int} (h : wantsR s id = 0) : thereB s.L id = true ∧ s.wr ≠ id ∧ 2 ≤ levelR s.L id := by
  unfold wantsR at h
  split at h
  · cases h
  · split at h
    · cases h
    · split at h
      · cases h
      · rename_i h1 h2 h3
        exact ⟨by simpa using h1, h2, by omega⟩
theorem Inv.come {s : St} (h : Inv s) {id level : Int} (call : Bool) (hi : (Lit.int .i64 id).wf = true) (hl : (Lit.int .i64 level).wf = true) : Inv (comeR s id level call).1 := by
  unfold comeR
  split
  · exact h
  · rename_i hc
    obtain ⟨h1, h2, h3, h4⟩ := h.comes (by simpa using hc) hi hl
    split
    · rename_i hw
      have hq : s.q = [] := by rcases h.wr_cases with g | g; exact g.2; omega
      exact ⟨h1.most, h1.len, h1.nodup, h1.pos, h1.wf, h1.qnodup, h1.qlen, fun x hx => (by rw [show (⟨s.L ++ [(id, level)], s.most, id, s.q⟩ : St).q = [] from hq] at hx; cases hx), .inr ⟨by show thereB (s.L ++ [(id, level)]) id = true; rw [there_app]; simp, by show 2 ≤ levelR (s.L ++ [(id, level)]) id; rw [level_new h3]; exact hw.2.2⟩⟩
    · exact h1
theorem Inv.ask {s : St} (h : Inv s) (id : Int) : Inv (askR s id).1 := by
  unfold askR
  split
  · exact h
  · rename_i hw
    obtain ⟨g1, g2, g3⟩ := wants_yes (by simpa using hw)
    split
    · exact h.becomes g1 g3 g2
    · split
      · exact h
      · rename_i hn hp
        unfold Qint.putR at hp ⊢
        split at hp
        · simp at hp
        · rename_i hpl
          rw [if_neg hpl]
          split at hp
          · simp at hp
          · rename_i hm
            rw [if_neg hm]
            have hnq : id ∉ s.q := fun hx => by
              rcases place_cases s.q id with ⟨e, g⟩ | ⟨k, hk, e, _⟩
              · obtain ⟨j, hj, rfl⟩ := List.getElem_of_mem hx
                have := g j hj
                simp at this
              · omega
            refine ⟨h.most, h.len, h.nodup, h.pos, h.wf, ?_, by simp; omega, ?_, ?_⟩
            · show (s.q ++ [id]).Nodup
              rw [List.nodup_append]
              exact ⟨h.qnodup, by simp, fun a ha b hb e => by simp at hb; subst e hb; exact hnq ha⟩
            · intro x hx
              rcases List.mem_append.1 hx with hx | hx
              · exact h.qin x hx
              · rw [List.mem_singleton.1 hx]; exact ⟨g1, g3, fun e => g2 e.symm⟩
            · rcases h.wr_cases with g | g
              · omega
              · exact .inr g.2
theorem Inv.take {s : St} (h : Inv s) (id : Int) (force : Bool) : Inv (takeR s id force).1 := by
  unfold takeR
  split
  · exact h
  · rename_i hw
    obtain ⟨g1, g2, g3⟩ := wants_yes (by simpa using hw)
    split
    · exact h
    · exact h.becomes g1 g3 g2
/-- What is left once the writer is struck. -/
structure Pre (s : St) : Prop where
  most : 1 ≤ s.most ∧ s.most ≤ 4096
  len : (s.L.length : Int) ≤ s.most
  nodup : (s.L.map (·.1)).Nodup
  pos : ∀ m ∈ s.L, 0 ≤ m.1
  wf : ∀ m ∈ s.L, (Lit.int .i64 m.1).wf = true ∧ (Lit.int .i64 m.2).wf = true
  qnodup : s.q.Nodup
  qlen : (s.q.length : Int) ≤ s.most
  qin : ∀ x ∈ s.q, thereB s.L x = true ∧ 2 ≤ levelR s.L x
theorem Inv.pre {s : St} (h : Inv s) : Pre s := ⟨h.most, h.len, h.nodup, h.pos, h.wf, h.qnodup, h.qlen, fun x hx => ⟨(h.qin x hx).1, (h.qin x hx).2.1⟩⟩
theorem Pre.next {s : St} (h : Pre s) : Inv (nextR s).1 := by
  cases hq : s.q with
  | nil =>
    have e : nextR s = (⟨s.L, s.most, -1, []⟩, []) := by unfold nextR; rw [hq]
    rw [e]
    exact ⟨h.most, h.len, h.nodup, h.pos, h.wf, by simp, by have := h.most; simp; omega, by simp, .inl ⟨rfl, rfl⟩⟩
  | cons x t =>
    have hx := h.qin x (by rw [hq]; simp)
    have e : nextR s = becomeR ⟨s.L, s.most, -1, s.q⟩ x := by unfold nextR; rw [hq]
    rw [e]
    refine ⟨h.most, h.len, h.nodup, h.pos, h.wf, h.qnodup.filter _, without_len h.qlen, fun y hy => ?_, .inr hx⟩
    have hy := List.mem_filter.1 hy
    have := h.qin y hy.1
    exact ⟨this.1, this.2, show y ≠ x by simpa using hy.2⟩
theorem there_filter {L : Sh} {id x : Int} (hx : x ≠ id) : thereB (L.filter (fun m => m.1 != id)) x = thereB L x := by
  unfold thereB
  rw [List.any_filter]
  congr 1
  funext m
  by_cases e : m.1 = x
  · simp [e, hx]
  · have : (m.1 == x) = false := by simpa using e
    rw [this]; simp
theorem level_filter {L : Sh} {id x : Int} (hx : x ≠ id) : levelR (L.filter (fun m => m.1 != id)) x = levelR L x := by
  unfold levelR
  rw [List.find?_filter]
  congr 2
  funext m
  by_cases e : m.1 = x
  · simp [e, hx]
  · have : (m.1 == x) = false := by simpa using e
    rw [this]; simp
theorem Inv.gone {s : St} (h : Inv s) (id : Int) : Pre (gone s id) := by
  refine ⟨h.most, ?_, ?_, fun m hm => h.pos m (List.mem_filter.1 hm).1, fun m hm => h.wf m (List.mem_filter.1 hm).1, h.qnodup.filter _, without_len h.qlen, fun x hx => ?_⟩
  · have h1 := h.len
    have h2 : (s.L.filter (fun m => m.1 != id)).length ≤ s.L.length := List.length_filter_le _ _
    show (((s.L.filter (fun m => m.1 != id)).length : Nat) : Int) ≤ s.most
    omega
  · exact (List.Sublist.map _ List.filter_sublist).nodup h.nodup
  · have hx := List.mem_filter.1 hx
    have he : x ≠ id := by simpa using hx.2
    obtain ⟨g1, g2, g3⟩ := h.qin x hx.1
    exact ⟨by show thereB (s.L.filter _) x = true; rw [there_filter he]; exact g1, by show 2 ≤ levelR (s.L.filter _) x; rw [level_filter he]; exact g2⟩
theorem Inv.leaves {s : St} (h : Inv s) {id : Int} (hw : s.wr ≠ id) : Inv (Seat.gone s id) := by
  have p := h.gone id
  refine ⟨p.most, p.len, p.nodup, p.pos, p.wf, p.qnodup, p.qlen, fun x hx => ?_, ?_⟩
  · exact ⟨(p.qin x hx).1, (p.qin x hx).2, (h.qin x (List.mem_filter.1 hx).1).2.2⟩
  · rcases h.wr with ⟨g1, g2⟩ | ⟨g1, g2⟩
    · exact .inl ⟨g1, by show without s.q id = []; rw [g2]; rfl⟩
    · exact .inr ⟨by show thereB (s.L.filter _) s.wr = true; rw [there_filter hw]; exact g1, by show 2 ≤ levelR (s.L.filter _) s.wr; rw [level_filter hw]; exact g2⟩
theorem Inv.yield {s : St} (h : Inv s) (id : Int) : Inv (yieldR s id).1 := by
  unfold yieldR
  split
  · exact h
  · split
    · exact h
    · exact h.pre.next
theorem Inv.leave {s : St} (h : Inv s) (id : Int) : Inv (leaveR s id).1 := by
  unfold leaveR
  split
  · exact h
  · split
    · rename_i hw; exact h.leaves hw
    · exact (h.gone id).next
/-- A member's place struck is the member struck. -/
theorem erase_gone {L : Sh} (h : (L.map (·.1)).Nodup) {k : Nat} (hk : k < L.length) : L.eraseIdx k = L.filter (fun m => m.1 != L[k].1) := by
  induction L generalizing k with
  | nil => simp at hk
  | cons a L ih =>
    rw [List.map_cons, List.nodup_cons] at h
    cases k with
    | zero =>
      show L = _
      have e : (a :: L)[0].1 = a.1 := rfl
      rw [e, List.filter_cons_of_neg (by simp)]
      symm
      rw [List.filter_eq_self]
      intro m hm
      simp
      intro e
      exact h.1 (by rw [← e]; exact List.mem_map.2 ⟨m, hm, rfl⟩)
    | succ k =>
      have hk' : k < L.length := by simpa using hk
      have e : (a :: L)[k + 1].1 = L[k].1 := rfl
      have hne : a.1 ≠ L[k].1 := fun e => h.1 (by rw [e]; exact List.mem_map.2 ⟨_, List.getElem_mem hk', rfl⟩)
      rw [e, List.filter_cons_of_pos (by simpa using hne), List.eraseIdx_cons_succ, ih h.2 hk']
end Seat
end Go.Proofs.Ytepnjmgacfjhiaa
