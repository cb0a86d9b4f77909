/- Package seat, the plain law: what was told last of somebody is what they are; who writes turns only so; one writes at most. No program in sight. -/
import Derived.Test.YtepnjmgacfjhiaaSeatDp
namespace Go.Proofs.Ytepnjmgacfjhiaa
open Go.RowKit
set_option linter.unusedVariables false
set_option linter.unusedSimpArgs false
namespace Seat
theorem place_mem {q : List Int} {x : Int} : 0 ≤ place q x ↔ x ∈ q := by
  constructor
  · intro h
    rcases place_cases q x with ⟨e, _⟩ | ⟨k, hk, e, h1, _⟩
    · omega
    · have : q[k] = x := by simpa using h1
      rw [← this]
      exact List.getElem_mem hk
  · intro h
    obtain ⟨k, hk, e⟩ := List.getElem_of_mem h
    rcases place_cases q x with ⟨_, g⟩ | ⟨j, hj, e2, _⟩
    · have := g k hk
      rw [e] at this
      simp at this
    · omega
def mem (s : St) (x : Int) : Prop := x ∈ s.L.map (·.1)
theorem role_not {s : St} {x : Int} (h : ¬ mem s x) : roleR s x = 0 := by
  unfold roleR
  rw [if_pos (there_not.2 h)]
theorem role_wr {s : St} (h : mem s s.wr) : roleR s s.wr = 2 := by
  unfold roleR
  rw [if_neg (by rw [there_iff.2 h]; simp), if_pos rfl]
theorem role_q {s : St} {x : Int} (h : mem s x) (hw : s.wr ≠ x) (hq : x ∈ s.q) : roleR s x = 3 := by
  unfold roleR
  rw [if_neg (by rw [there_iff.2 h]; simp), if_neg hw, if_pos (place_mem.2 hq)]
theorem role_on {s : St} {x : Int} (h : mem s x) (hw : s.wr ≠ x) (hq : x ∉ s.q) : roleR s x = 1 := by
  unfold roleR
  rw [if_neg (by rw [there_iff.2 h]; simp), if_neg hw, if_neg (fun g => hq (place_mem.1 g))]
theorem role_same {s t : St} {x : Int} (h1 : mem s x ↔ mem t x) (h2 : mem s x → (s.wr = x ↔ t.wr = x)) (h3 : mem s x → (x ∈ s.q ↔ x ∈ t.q)) : roleR s x = roleR t x := by
  by_cases h : mem s x
  · have h' := h1.1 h
    by_cases hw : s.wr = x
    · have hw' := (h2 h).1 hw
      have a := role_wr (s := s) (by rw [hw]; exact h)
      have b := role_wr (s := t) (by rw [hw']; exact h')
      rw [hw] at a
      rw [hw'] at b
      rw [a, b]
    · have hw' : t.wr ≠ x := fun e => hw ((h2 h).2 e)
      by_cases hq : x ∈ s.q
      · rw [role_q h hw hq, role_q h' hw' ((h3 h).1 hq)]
      · rw [role_on h hw hq, role_on h' hw' (fun g => hq ((h3 h).2 g))]
  · rw [role_not h, role_not (fun g => h (h1.2 g))]
/-- What of somebody was told last. -/
def lastF (a : Int) (l : Sh) (x : Int) : Int := l.foldl (fun r m => if m.1 = x then m.2 else r) a
theorem lastF_app (a : Int) (l m : Sh) (x : Int) : lastF a (l ++ m) x = lastF (lastF a l x) m x := List.foldl_append ..
theorem lastF_yes (a : Int) (x r : Int) : lastF a [(x, r)] x = r := by simp [lastF]
theorem lastF_no (a : Int) {y x r : Int} (h : y ≠ x) : lastF a [(y, r)] x = a := by simp [lastF, h]
/-- What is told is what they become. -/
def Said (s s' : St) (l : Sh) : Prop := ∀ x, lastF (roleR s x) l x = roleR s' x
theorem Said.refl (s : St) : Said s s [] := fun _ => rfl
theorem Said.trans {s s1 s2 : St} {l m : Sh} (h : Said s s1 l) (k : Said s1 s2 m) : Said s s2 (l ++ m) := fun x => by rw [lastF_app, h x, k x]
theorem Said.one {s s' : St} {y r : Int} (h : roleR s' y = r) (hn : ∀ x, y ≠ x → roleR s x = roleR s' x) : Said s s' [(y, r)] := fun x => by
  by_cases e : y = x
  · subst e; rw [lastF_yes, h]
  · rw [lastF_no _ e, hn x e]
theorem mem_without {q : List Int} {id x : Int} (h : x ≠ id) : x ∈ without q id ↔ x ∈ q := by
  unfold without
  rw [List.mem_filter]
  simp [h]
theorem not_without (q : List Int) (id : Int) : id ∉ without q id := by
  unfold without
  rw [List.mem_filter]
  simp
theorem mem_gone {L : Sh} {id x : Int} (h : x ≠ id) : x ∈ (L.filter (fun m => m.1 != id)).map (·.1) ↔ x ∈ L.map (·.1) := by rw [← there_iff, ← there_iff, there_filter h]
theorem not_gone (L : Sh) (id : Int) : id ∉ (L.filter (fun m => m.1 != id)).map (·.1) := by
  rw [List.mem_map]
  rintro ⟨m, hm, e⟩
  have := (List.mem_filter.1 hm).2
  simp [e] at this
theorem said_become {s : St} {id : Int} (ht : mem s id) (hw : s.wr ≠ id) (hq : s.wr ∉ s.q) (hwt : s.wr = -1 ∨ 0 ≤ s.wr ∧ mem s s.wr) (hp : ∀ x, mem s x → 0 ≤ x) : Said s (becomeR s id).1 (becomeR s id).2 := by
  have h2 : roleR (becomeR s id).1 id = 2 := role_wr (s := (becomeR s id).1) ht
  have hn : ∀ x, id ≠ x → s.wr ≠ x → roleR s x = roleR (becomeR s id).1 x := fun x h1 h2 =>
    role_same Iff.rfl (fun _ => ⟨fun e => absurd e h2, fun e => absurd e h1⟩) (fun _ => (mem_without (fun e => h1 e.symm)).symm)
  rcases hwt with e | ⟨e, hwm⟩
  · have : (becomeR s id).2 = [(id, 2)] := by
      unfold becomeR
      rw [if_neg (by omega)]
      rfl
    rw [this]
    refine Said.one h2 (fun x hx => ?_)
    by_cases hm : mem s x
    · exact hn x hx (by have := hp x hm; omega)
    · rw [role_not hm, role_not (s := (becomeR s id).1) hm]
  · have : (becomeR s id).2 = [(s.wr, 1), (id, 2)] := by
      unfold becomeR
      rw [if_pos e]
      rfl
    rw [this]
    intro x
    show lastF (lastF _ [(s.wr, 1)] x) [(id, 2)] x = _
    by_cases e1 : id = x
    · subst e1; rw [lastF_yes, h2]
    · rw [lastF_no _ e1]
      by_cases e2 : s.wr = x
      · subst e2
        rw [lastF_yes, role_on (s := (becomeR s id).1) hwm (fun g => hw g.symm) (fun g => hq ((mem_without hw).1 g))]
      · rw [lastF_no _ e2, hn x e1 e2]
theorem Inv.mem_pos {s : St} (h : Inv s) {x : Int} (hm : mem s x) : 0 ≤ x := h.pos_of (there_iff.2 hm)
theorem Inv.become_said {s : St} (h : Inv s) {id : Int} (ht : thereB s.L id = true) (hw : s.wr ≠ id) : Said s (becomeR s id).1 (becomeR s id).2 :=
  said_become (there_iff.1 ht) hw h.wr_not (h.wr_cases.elim (fun g => .inl g.1) (fun g => .inr ⟨g.1, there_iff.1 g.2.1⟩)) (fun x hx => h.mem_pos hx)
theorem next_said {s : St} (h : Pre s) : Said ⟨s.L, s.most, -1, s.q⟩ (nextR s).1 (nextR s).2 := by
  cases hq : s.q with
  | nil =>
    have e : nextR s = (⟨s.L, s.most, -1, []⟩, []) := by unfold nextR; rw [hq]
    rw [e]
    exact Said.refl _
  | cons x t =>
    have hx := h.qin x (by rw [hq]; simp)
    have e : nextR s = becomeR ⟨s.L, s.most, -1, x :: t⟩ x := by unfold nextR; rw [hq]
    rw [e]
    have hp : ∀ y, mem s y → 0 ≤ y := fun y hy => by
      obtain ⟨m, hm, rfl⟩ := List.mem_map.1 hy
      exact h.pos m hm
    refine said_become (s := ⟨s.L, s.most, -1, x :: t⟩) (there_iff.1 hx.1) ?_ ?_ (.inl rfl) hp
    · have := hp x (there_iff.1 hx.1)
      show (-1 : Int) ≠ x
      omega
    · intro hm
      have hm : (-1 : Int) ∈ s.q := by rw [hq]; exact hm
      have := hp _ (there_iff.1 (h.qin _ hm).1)
      omega
theorem come_said {s : St} (h : Inv s) {id level : Int} (call : Bool) (hi : (Lit.int .i64 id).wf = true) (hl : (Lit.int .i64 level).wf = true) : Said s (comeR s id level call).1 (comeR s id level call).2.1 := by
  unfold comeR
  split
  · exact Said.refl s
  · rename_i hc
    obtain ⟨h1, h2, h3, h4⟩ := h.comes (by simpa using hc) hi hl
    have hnm : ¬ mem s id := there_not.1 h3
    have hap : ∀ x, x ∈ (s.L ++ [(id, level)]).map (·.1) ↔ mem s x ∨ x = id := fun x => by simp [mem]
    split
    · rename_i hw
      have hq : s.q = [] := by rcases h.wr_cases with g | g; exact g.2; omega
      refine Said.one (role_wr (s := ⟨s.L ++ [(id, level)], s.most, id, s.q⟩) ((hap id).2 (.inr rfl))) (fun x hx => ?_)
      refine role_same ((hap x).trans ⟨fun g => g.elim (fun g => g) (fun g => absurd g.symm hx), .inl⟩).symm (fun hm => ⟨fun e => ?_, fun e => absurd e hx⟩) (fun _ => Iff.rfl)
      have := h.mem_pos hm
      omega
    · refine Said.one (role_on (s := comeS s id level) ((hap id).2 (.inr rfl)) (fun e => ?_) (fun hq => ?_)) (fun x hx => ?_)
      · have e : s.wr = id := e
        rcases h.wr_cases with g | g
        · omega
        · exact hnm (there_iff.1 (by rw [← e]; exact g.2.1))
      · exact hnm (there_iff.1 (h.qin id hq).1)
      · exact role_same ((hap x).trans ⟨fun g => g.elim (fun g => g) (fun g => absurd g.symm hx), .inl⟩).symm (fun _ => Iff.rfl) (fun _ => Iff.rfl)
theorem ask_said {s : St} (h : Inv s) (id : Int) : Said s (askR s id).1 (askR s id).2.1 := by
  unfold askR
  split
  · exact Said.refl s
  · rename_i hw
    obtain ⟨g1, g2, g3⟩ := wants_yes (by simpa using hw)
    split
    · exact h.become_said g1 g2
    · split
      · exact Said.refl s
      · rename_i hn hp
        unfold Qint.putR at hp ⊢
        split at hp
        · simp at hp
        · rename_i hpl
          rw [if_neg hpl]
          split at hp
          · simp at hp
          · rename_i hm
            rw [if_neg hm]
            refine Said.one (role_q (s := ⟨s.L, s.most, s.wr, s.q ++ [id]⟩) (there_iff.1 g1) g2 (by simp)) (fun x hx => ?_)
            exact role_same Iff.rfl (fun _ => Iff.rfl) (fun _ => by
              show x ∈ s.q ↔ x ∈ s.q ++ [id]
              rw [List.mem_append, List.mem_singleton]
              exact ⟨.inl, fun g => g.elim (fun g => g) (fun g => absurd g.symm hx)⟩)
theorem take_said {s : St} (h : Inv s) (id : Int) (force : Bool) : Said s (takeR s id force).1 (takeR s id force).2.1 := by
  unfold takeR
  split
  · exact Said.refl s
  · rename_i hw
    obtain ⟨g1, g2, g3⟩ := wants_yes (by simpa using hw)
    split
    · exact Said.refl s
    · exact h.become_said g1 g2
theorem yield_said {s : St} (h : Inv s) (id : Int) : Said s (yieldR s id).1 (yieldR s id).2.1 := by
  unfold yieldR
  split
  · exact Said.refl s
  · rename_i ht
    have ht : thereB s.L id = true := by simpa using ht
    split
    · exact Said.refl s
    · rename_i hw
      have hw : s.wr = id := by simpa using hw
      have h0 := h.mem_pos (there_iff.1 ht)
      refine Said.trans (l := [(id, 1)]) (s1 := ⟨s.L, s.most, -1, s.q⟩) (Said.one (role_on (s := ⟨s.L, s.most, -1, s.q⟩) (there_iff.1 ht) (by show (-1 : Int) ≠ id; omega) (fun g => h.wr_not (by rw [hw]; exact g))) (fun x hx => ?_)) (next_said h.pre)
      refine role_same Iff.rfl (fun hm => ⟨fun e => absurd (hw.symm.trans e) hx, fun e => ?_⟩) (fun _ => Iff.rfl)
      have e : (-1 : Int) = x := e
      have := h.mem_pos hm
      omega
theorem leave_said {s : St} (h : Inv s) (id : Int) : Said s (leaveR s id).1 (leaveR s id).2.1 := by
  unfold leaveR
  split
  · exact Said.refl s
  · rename_i ht
    have ht : thereB s.L id = true := by simpa using ht
    have h0 := h.mem_pos (there_iff.1 ht)
    split
    · rename_i hw
      exact Said.one (role_not (s := gone s id) (not_gone _ _)) (fun x hx => role_same (mem_gone (fun e => hx e.symm)).symm (fun _ => Iff.rfl) (fun _ => (mem_without (fun e => hx e.symm)).symm))
    · rename_i hw
      have hw : s.wr = id := by simpa using hw
      refine Said.trans (l := [(id, 0)]) (s1 := ⟨(gone s id).L, s.most, -1, (gone s id).q⟩) (Said.one (role_not (s := ⟨(gone s id).L, s.most, -1, (gone s id).q⟩) (not_gone _ _)) (fun x hx => ?_)) (next_said (h.gone id))
      refine role_same (mem_gone (fun e => hx e.symm)).symm (fun hm => ⟨fun e => absurd (hw.symm.trans e) hx, fun e => ?_⟩) (fun _ => (mem_without (fun e => hx e.symm)).symm)
      have e : (-1 : Int) = x := e
      have := h.mem_pos hm
      omega
theorem do_said {s : St} (h : Inv s) (kd id level : Int) (hi : (Lit.int .i64 id).wf = true) (hl : (Lit.int .i64 level).wf = true) : Said s (doR s kd id level).1 (doR s kd id level).2.1 := by
  unfold doR
  repeat' split
  · exact come_said h true hi hl
  · exact come_said h false hi hl
  · exact ask_said h id
  · exact take_said h id false
  · exact take_said h id true
  · exact yield_said h id
  · exact leave_said h id
/-! ### Who writes -/
def wasR (s : St) : Int := if 0 ≤ s.wr then s.wr else 0
theorem do_turned {s : St} (h : Inv s) (kd id level : Int) (hc : kd % 7 = 1 ∨ kd % 7 = 0 ∧ 0 ≤ s.wr ∨ kd % 7 = 2 ∧ 0 ≤ s.wr ∨ 5 ≤ kd % 7 ∧ wasR s ≠ id) : (doR s kd id level).1.wr = s.wr := by
  have hne : wasR s ≠ id → thereB s.L id = true → s.wr ≠ id := fun h1 h2 e => by
    have := h.pos_of h2
    unfold wasR at h1
    rw [if_pos (by omega)] at h1
    exact h1 e
  unfold doR
  split
  · unfold comeR
    split
    · rfl
    · split
      · omega
      · rfl
  · split
    · unfold comeR
      split
      · rfl
      · split
        · rename_i hh; simp at hh
        · rfl
    · split
      · unfold askR
        split
        · rfl
        · split
          · omega
          · split <;> rfl
      · split
        · omega
        · split
          · omega
          · split
            · unfold yieldR
              split
              · rfl
              · rename_i ht
                rw [if_pos (hne (by omega) (by simpa using ht))]
            · unfold leaveR
              split
              · rfl
              · rename_i ht
                rw [if_pos (hne (by omega) (by simpa using ht))]
                rfl
/-! ### One writes at most -/
theorem filter_one {l : List Int} (h : l.Nodup) (a : Int) : (l.filter (fun x => decide (x = a))).length = if a ∈ l then 1 else 0 := by
  induction l with
  | nil => rfl
  | cons b l ih =>
    rw [List.nodup_cons] at h
    by_cases e : b = a
    · subst e
      rw [List.filter_cons_of_pos (by simp), List.length_cons, ih h.2, if_neg h.1, if_pos (by simp)]
    · rw [List.filter_cons_of_neg (by simpa using e), ih h.2]
      simp [Ne.symm e]
theorem filter_in {l : List Int} (h : l.Nodup) : ∀ {q : List Int}, q.Nodup → (∀ x ∈ q, x ∈ l) → (l.filter (fun x => decide (x ∈ q))).length = q.length := by
  intro q
  induction q with
  | nil =>
    intro _ _
    have : l.filter (fun x => decide (x ∈ ([] : List Int))) = [] := by
      rw [List.filter_eq_nil_iff]
      simp
    rw [this]
  | cons a q ih =>
    intro hq hin
    rw [List.nodup_cons] at hq
    have h1 := ih hq.2 (fun x hx => hin x (List.mem_cons_of_mem _ hx))
    have h2 := filter_one h a
    rw [if_pos (hin a (by simp))] at h2
    rw [List.length_cons, ← h1, ← h2]
    clear h1 h2 ih h hin
    induction l with
    | nil => rfl
    | cons b l ih =>
      by_cases e : b = a
      · subst e
        rw [List.filter_cons_of_pos (by simp), List.filter_cons_of_neg (by simpa using hq.1), List.filter_cons_of_pos (by simp), List.length_cons, List.length_cons, ih]
        omega
      · by_cases g : b ∈ q
        · rw [List.filter_cons_of_pos (by simp [g]), List.filter_cons_of_pos (by simpa using g), List.filter_cons_of_neg (by simpa using e), List.length_cons, List.length_cons, ih]
          omega
        · rw [List.filter_cons_of_neg (by simp [g, e]), List.filter_cons_of_neg (by simpa using g), List.filter_cons_of_neg (by simpa using e), ih]
def cnt (s : St) (r : Int) (l : List Int) : Nat := (l.filter (fun x => decide (roleR s x = r))).length
theorem role_cases (s : St) {x : Int} (h : mem s x) : (roleR s x = 2 ∧ s.wr = x) ∨ (roleR s x = 3 ∧ s.wr ≠ x ∧ x ∈ s.q) ∨ (roleR s x = 1 ∧ s.wr ≠ x ∧ x ∉ s.q) := by
  by_cases hw : s.wr = x
  · subst hw; exact .inl ⟨role_wr h, rfl⟩
  · by_cases hq : x ∈ s.q
    · exact .inr (.inl ⟨role_q h hw hq, hw, hq⟩)
    · exact .inr (.inr ⟨role_on h hw hq, hw, hq⟩)
theorem cnt_wr {s : St} (h : Inv s) : cnt s 2 (s.L.map (·.1)) = if 0 ≤ s.wr then 1 else 0 := by
  unfold cnt
  have : (s.L.map (·.1)).filter (fun x => decide (roleR s x = 2)) = (s.L.map (·.1)).filter (fun x => decide (x = s.wr)) := by
    apply List.filter_congr
    intro x hx
    rcases role_cases s hx with ⟨e, g⟩ | ⟨e, g, _⟩ | ⟨e, g, _⟩
    · simp [e, g]
    · simp [e, Ne.symm g]
    · simp [e, Ne.symm g]
  rw [this, filter_one h.nodup]
  rcases h.wr_cases with g | g
  · have h1 : ¬ 0 ≤ s.wr := by omega
    have h2 : s.wr ∉ s.L.map (·.1) := fun hm => by have := h.mem_pos hm; omega
    simp only [if_neg h1, if_neg h2]
  · have h2 : s.wr ∈ s.L.map (·.1) := there_iff.1 g.2.1
    simp only [if_pos g.1, if_pos h2]
theorem cnt_q {s : St} (h : Inv s) : cnt s 3 (s.L.map (·.1)) = s.q.length := by
  unfold cnt
  have : (s.L.map (·.1)).filter (fun x => decide (roleR s x = 3)) = (s.L.map (·.1)).filter (fun x => decide (x ∈ s.q)) := by
    apply List.filter_congr
    intro x hx
    rcases role_cases s hx with ⟨e, g⟩ | ⟨e, g, g2⟩ | ⟨e, g, g2⟩
    · have : x ∉ s.q := by rw [← g]; exact h.wr_not
      simp [e, this]
    · simp [e, g2]
    · simp [e, g2]
  rw [this, filter_in h.nodup h.qnodup (fun x hx => there_iff.1 (h.qin x hx).1)]
theorem cnt_push (s : St) (r : Int) (l : List Int) (x : Int) : cnt s r (l ++ [x]) = cnt s r l + if roleR s x = r then 1 else 0 := by
  unfold cnt
  rw [List.filter_append, List.length_append]
  congr 1
  by_cases e : roleR s x = r
  · simp [e]
  · simp [e]
theorem level_of_role {s : St} (h : Inv s) {x : Int} (hm : mem s x) (hr : 2 ≤ roleR s x) : 2 ≤ levelR s.L x := by
  rcases role_cases s hm with ⟨e, g⟩ | ⟨e, g, g2⟩ | ⟨e, g, g2⟩
  · rcases h.wr_cases with g3 | g3
    · have := h.mem_pos hm; omega
    · rw [← g]; exact g3.2.2
  · exact (h.qin x g2).2.1
  · omega
theorem role_range (s : St) (x : Int) : 0 ≤ roleR s x ∧ roleR s x ≤ 3 := by
  unfold roleR
  repeat' split
  all_goals omega
end Seat
end Go.Proofs.Ytepnjmgacfjhiaa
