/- Package timer in memory: two entries of the pile change places. -/
import Derived.Test.YtkmlmjglipmdcaaTmM
import Derived.BigRegion
namespace Go.Proofs.Ytkmlmjglipmdcaa
open Go.RowKit
set_option linter.unusedVariables false
set_option linter.unusedSimpArgs false
namespace Tm
open Sls
section
variable {w w' : World} {b : Nat} {c0 c2 v : Value} {P : List E}
theorem foot_sw {v : Value} {P Q : List E} (h : Q.Perm P) {k : Nat} : Foot v Q k ↔ Foot v P k := by
  unfold Foot
  constructor
  · rintro (g | ⟨x, hx, e⟩)
    · exact .inl g
    · exact .inr ⟨x, h.mem_iff.1 hx, e⟩
  · rintro (g | ⟨x, hx, e⟩)
    · exact .inl g
    · exact .inr ⟨x, h.mem_iff.2 hx, e⟩
theorem PP.swapped {g c i k : Nat} (h : PP w b c0 c2 (.slice (some ⟨g, 0, none⟩) P.length c) P) (hi : i < P.length) (hk : k < P.length) (hne : i ≠ k) :
    PP ((((w.setCell ⟨g, i, none⟩ (.pointer (some ⟨P[k].1, 0, none⟩))).setCell ⟨g, k, none⟩ (.pointer (some ⟨P[i].1, 0, none⟩))).setCell ⟨P[k].1, 2, none⟩ (.int .i64 i)).setCell ⟨P[i].1, 2, none⟩ (.int .i64 k)) b c0 c2 (.slice (some ⟨g, 0, none⟩) P.length c) (sw P i k) ∧
    Fr (Foot (.slice (some ⟨g, 0, none⟩) P.length c) P) w ((((w.setCell ⟨g, i, none⟩ (.pointer (some ⟨P[k].1, 0, none⟩))).setCell ⟨g, k, none⟩ (.pointer (some ⟨P[i].1, 0, none⟩))).setCell ⟨P[k].1, 2, none⟩ (.int .i64 i)).setCell ⟨P[i].1, 2, none⟩ (.int .i64 k)) := by
  have hg : Of (.slice (some ⟨g, 0, none⟩) P.length c) g := rfl
  have hgi := (h.off _ (List.getElem_mem hi)).2
  have hgk := (h.off _ (List.getElem_mem hk)).2
  have hbi := (h.off _ (List.getElem_mem hi)).1
  have hbk := (h.off _ (List.getElem_mem hk)).1
  have hik := h.block_ne hi hk hne
  have hgb : g ≠ b := fun e => h.vb (e ▸ rfl)
  have hgi' : g ≠ P[i].1 := fun e => hgi (e ▸ rfl)
  have hgk' : g ≠ P[k].1 := fun e => hgk (e ▸ rfl)
  have hp := sw_perm hi hk
  have hfr : Fr (Foot (.slice (some ⟨g, 0, none⟩) P.length c) P) w ((((w.setCell ⟨g, i, none⟩ (.pointer (some ⟨P[k].1, 0, none⟩))).setCell ⟨g, k, none⟩ (.pointer (some ⟨P[i].1, 0, none⟩))).setCell ⟨P[k].1, 2, none⟩ (.int .i64 i)).setCell ⟨P[i].1, 2, none⟩ (.int .i64 k)) :=
    (((((Fr.refl _ w).setCell (p := ⟨g, i, none⟩) (.inl (.inl hg)) _).setCell (p := ⟨g, k, none⟩) (.inl (.inl hg)) _).setCell (p := ⟨P[k].1, 2, none⟩) (.inl (.inr ⟨_, List.getElem_mem hk, rfl⟩)) _).setCell (p := ⟨P[i].1, 2, none⟩) (.inl (.inr ⟨_, List.getElem_mem hi, rfl⟩)) _)
  refine ⟨⟨?_, ?_, ?_, ?_, ?_, h.vb⟩, hfr⟩
  · exact ((((h.blk.far (p := ⟨g, i, none⟩) (fun e => hgb e.symm) _).far (p := ⟨g, k, none⟩) (fun e => hgb e.symm) _).far (p := ⟨P[k].1, 2, none⟩) (fun e => hbk e.symm) _).far (p := ⟨P[i].1, 2, none⟩) (fun e => hbi e.symm) _)
  · have h1 := own_set h.row i (by rw [List.length_map]; exact hi) (.pointer (some ⟨P[k].1, 0, none⟩))
    have h2 := own_set h1 k (by rw [List.length_set, List.length_map]; exact hk) (.pointer (some ⟨P[i].1, 0, none⟩))
    have e : ((P.map encP).set i (.pointer (some ⟨P[k].1, 0, none⟩))).set k (.pointer (some ⟨P[i].1, 0, none⟩)) = (sw P i k).map encP := by
      unfold sw
      rw [List.map_set, List.map_set, at_get hi, at_get hk]
      rfl
    rw [e] at h2
    rw [sw_len]
    have f2 : Fr (fun x => x = P[k].1) _ (((w.setCell ⟨g, i, none⟩ (.pointer (some ⟨P[k].1, 0, none⟩))).setCell ⟨g, k, none⟩ (.pointer (some ⟨P[i].1, 0, none⟩))).setCell ⟨P[k].1, 2, none⟩ (.int .i64 i)) := (Fr.refl (fun x => x = P[k].1) ((w.setCell ⟨g, i, none⟩ (.pointer (some ⟨P[k].1, 0, none⟩))).setCell ⟨g, k, none⟩ (.pointer (some ⟨P[i].1, 0, none⟩)))).setCell (p := ⟨P[k].1, 2, none⟩) (.inl rfl) _
    have h3 := own_fr h2 f2 (fun x hx e => hgk (by have e : x = P[k].1 := e; rw [← e]; exact hx))
    have f3 : Fr (fun x => x = P[i].1) _ ((((w.setCell ⟨g, i, none⟩ (.pointer (some ⟨P[k].1, 0, none⟩))).setCell ⟨g, k, none⟩ (.pointer (some ⟨P[i].1, 0, none⟩))).setCell ⟨P[k].1, 2, none⟩ (.int .i64 i)).setCell ⟨P[i].1, 2, none⟩ (.int .i64 k)) := (Fr.refl (fun x => x = P[i].1) (((w.setCell ⟨g, i, none⟩ (.pointer (some ⟨P[k].1, 0, none⟩))).setCell ⟨g, k, none⟩ (.pointer (some ⟨P[i].1, 0, none⟩))).setCell ⟨P[k].1, 2, none⟩ (.int .i64 i))).setCell (p := ⟨P[i].1, 2, none⟩) (.inl rfl) _
    exact own_fr h3 f3 (fun x hx e => hgi (by have e : x = P[i].1 := e; rw [← e]; exact hx))
  · intro m hm
    have hm' : m < P.length := by rw [sw_len] at hm; exact hm
    rw [sw_get hm']
    have eI := h.ent i hi
    have eK := h.ent k hk
    by_cases e1 : m = k
    · rw [if_pos e1, at_get hi, e1]
      have := ((((eI.far (p := ⟨g, i, none⟩) (fun e => hgi' e.symm) (.pointer (some ⟨P[k].1, 0, none⟩))).far (p := ⟨g, k, none⟩) (fun e => hgi' e.symm) (.pointer (some ⟨P[i].1, 0, none⟩))).far (p := ⟨P[k].1, 2, none⟩) hik (.int .i64 i)).put 2 (.int .i64 k))
      simpa using this
    · rw [if_neg e1]
      by_cases e2 : m = i
      · rw [if_pos e2, at_get hk, e2]
        have := ((((eK.far (p := ⟨g, i, none⟩) (fun e => hgk' e.symm) (.pointer (some ⟨P[k].1, 0, none⟩))).far (p := ⟨g, k, none⟩) (fun e => hgk' e.symm) (.pointer (some ⟨P[i].1, 0, none⟩))).put 2 (.int .i64 i)).far (p := ⟨P[i].1, 2, none⟩) (fun e => hik e.symm) (.int .i64 k))
        simpa using this
      · rw [if_neg e2]
        have hgm : g ≠ P[m].1 := fun e => (h.off _ (List.getElem_mem hm')).2 (e ▸ rfl)
        exact (((((h.ent m hm').far (p := ⟨g, i, none⟩) (fun e => hgm e.symm) _).far (p := ⟨g, k, none⟩) (fun e => hgm e.symm) _).far (p := ⟨P[k].1, 2, none⟩) (h.block_ne hm' hk e1) _).far (p := ⟨P[i].1, 2, none⟩) (h.block_ne hm' hi e2) _)
  · exact (hp.map (·.1)).nodup_iff.2 h.nodup
  · exact fun x hx => h.off x (hp.mem_iff.1 hx)
set_option maxRecDepth 100000 in
set_option maxHeartbeats 4000000 in
theorem swap_any (h : PP w b c0 c2 v P) {i k : Nat} (hi : i < P.length) (hk : k < P.length) (hne : i ≠ k) (hl : P.length ≤ 4096) : Calls Try.prog 45 #[v, .int .i64 i, .int .i64 k] w fun e w' => e = .returned (.tuple #[]) ∧ PP w' b c0 c2 v (sw P i k) ∧ Fr (Foot v P) w w' := by
  obtain ⟨g, c, rfl⟩ := h.has (by omega)
  have HS := Lib.hid (fun (X : World) (hX : PP X b c0 c2 (.slice (some ⟨g, 0, none⟩) P.length c) P) => hX.swapped hi hk hne)
  have H := Lib.hid h
  have r1 := h.cell hi
  have r2 := h.cell hk
  have f1 := own_frozen h.row i
  have f2 := own_frozen h.row k
  have hgi : g ≠ P[i].1 := fun e => (h.off _ (List.getElem_mem hi)).2 (e ▸ rfl)
  have hgk : g ≠ P[k].1 := fun e => (h.off _ (List.getElem_mem hk)).2 (e ▸ rfl)
  have hik := h.block_ne hi hk hne
  have a2 := (h.ent i hi).cell 2
  have af := (h.ent i hi).frozen 2
  have d2 := (h.ent k hk).cell 2
  have df := (h.ent k hk).frozen 2
  simp only [List.getElem?_toArray, List.getElem?_cons_zero, List.getElem?_cons_succ] at a2 d2
  obtain ⟨eb, heb⟩ : ∃ x, x = P[i].1 := ⟨_, rfl⟩
  obtain ⟨fb, hfb⟩ : ∃ x, x = P[k].1 := ⟨_, rfl⟩
  simp only [← heb, ← hfb] at HS
  rw [← heb] at r1 hgi a2 af hik
  rw [← hfb] at r2 hgk d2 df hik
  obtain ⟨n, hn⟩ : ∃ n, n = P.length := ⟨_, rfl⟩
  rw [← hn] at hi hk hl H
  simp only [← hn] at HS
  rw [← hn]
  have hik' : fb ≠ eb := fun e => hik e.symm
  have hki : k ≠ i := fun e => hne e.symm
  clear h heb hfb hn
  go_enter Try.func45, Try.ntmps45
  go_wp2_with fail
  go_region
  all_goals
    go_wp2_with fail
    go_region
    all_goals
      go_wp2_with fail
      have hs := HS.out w H.out
      have hd : ∀ X : World, Fr No X X.drew.drew := fun X => (Fr.refl No X).drew.drew
      go_end0
      exact ⟨rfl, hs.1.no (hd _), hs.2.then_no (hd _)⟩
end
end Tm
end Go.Proofs.Ytkmlmjglipmdcaa
