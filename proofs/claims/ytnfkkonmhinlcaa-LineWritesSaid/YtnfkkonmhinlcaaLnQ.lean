/- Package line: rows of outs, in plain terms. -/
import Derived.Test.YtnfkkonmhinlcaaLnU
namespace Go.Proofs.Ytnfkkonmhinlcaa
open Go.RowKit
set_option linter.unusedVariables false
set_option linter.unusedSimpArgs false
namespace Ln
open Run (O ROp timesR endsR dueT nextT chk chkR Fit)
theorem due_len (was now : Int) (l : List (Int × O)) : (dueT was now l).length ≤ l.length := by
  unfold Run.dueT
  rw [List.length_map]
  exact List.length_filter_le _ _
theorem due_mem {was now start : Int} {l : List O} {x : O} (h : x ∈ dueT was now (timesR start l)) : x ∈ l := by
  unfold Run.dueT at h
  obtain ⟨y, hy, rfl⟩ := List.mem_map.1 h
  have := (List.mem_filter.1 hy).1
  rw [← Run.times_snd start l]
  exact List.mem_map.2 ⟨y, this, rfl⟩
theorem push_step {w2 wr wq w6 : World} {v : Value} {g n c : Nat} (h1 : Step No w2 (Of v) wr) (h2 : Fr No wr wq) (q2 : Fr (Of v) wq w6) (q3 : Of v g ∨ New wq w6 g) : Step No w2 (Of (.slice (some ⟨g, 0, none⟩) n c)) w6 := by
  refine ⟨(h1.1.then_no h2).trans q2 (fun b hb hl => by have := (h1.2 b hb).elim (fun g => g.elim) (fun g => g.1); omega), fun b hb => .inr ?_⟩
  have hb : some g = some b := hb
  injection hb with hb
  subst hb
  rcases q3 with h | h
  · have := (h1.2 _ h).elim (fun g => g.elim) (fun g => g)
    exact ⟨this.1, Nat.lt_of_lt_of_le this.2 (Nat.le_trans h2.size q2.size)⟩
  · exact ⟨Nat.le_trans h1.1.size (Nat.le_trans h2.size h.1), h.2⟩
theorem ba_app (a b : Str) : (⟨a.toArray⟩ : ByteArray) ++ ⟨b.toArray⟩ = ⟨(a ++ b).toArray⟩ := by
  simp [ByteArray.ext_iff]
theorem fit_chk {now : Int} {l : List O} (h : Run.chk now l = 0) (hl : l.length ≤ 1000) (hw : ∀ x ∈ l, Run.wfO x) : Fit l now := by
  unfold Run.chk at h
  split at h
  · rename_i g
    exact ⟨Run.isT_iff.1 g, h, hl, hw⟩
  · exact absurd h (by decide)
theorem ne_empty {t : Str} (h : t ≠ []) : t.isEmpty = false := by
  cases t with
  | nil => exact absurd rfl h
  | cons a t => rfl
theorem out_take {D : List O} {k : Nat} (h : k < D.length) : (D.take (k + 1)).map outO = (D.take k).map outO ++ [outO D[k]] := by
  rw [List.take_succ_eq_append_getElem h, List.map_append]; rfl
end Ln
end Go.Proofs.Ytnfkkonmhinlcaa
