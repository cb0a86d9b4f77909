/- The reference of package mux: parts. -/
import Derived.Test.YtagkhljcknnhmaaMuxBody
namespace Go.Proofs.Ytagkhljcknnhmaa
open Go.RowKit
set_option linter.unusedVariables false
set_option linter.unusedSimpArgs false
namespace Mux
theorem infoR : (Try.prog.info? 48).map (fun i => (i.zero, i.size, i.bytes)) = some (some (.agg #[.string ByteArray.empty, .bool false]), 2, 24) := by kernel_rfl
abbrev RPart : Rd (Str × Bool) := RTwo 1 RStr RBool
theorem RPart.stable : Rd.Stable RPart := RTwo.stable RStr.stable RBool.stable
theorem encP_len (l : List (Str × Bool)) : (l.flatMap encP).length = l.length * 2 := by
  induction l with
  | nil => rfl
  | cons a l ih => rw [List.flatMap_cons, List.length_append, ih, List.length_cons]; simp [encP]; omega
theorem encP_get (l : List (Str × Bool)) (i : Nat) (h : i < l.length) : (l.flatMap encP)[i * 2]? = some (.string ⟨l[i].1.toArray⟩) ∧ (l.flatMap encP)[i * 2 + 1]? = some (.bool l[i].2) := by
  induction l generalizing i with
  | nil => simp at h
  | cons a l ih =>
    rw [List.flatMap_cons]
    cases i with
    | zero => simp [encP]
    | succ i =>
      have := ih i (by simpa using h)
      have e : (encP a).length = 2 := rfl
      rw [List.getElem?_append_right (by rw [e]; omega), List.getElem?_append_right (by rw [e]; omega), e, show (i + 1) * 2 - 2 = i * 2 by omega, show (i + 1) * 2 + 1 - 2 = i * 2 + 1 by omega]
      simpa using this
theorem own_parts {w : World} {base : Nat} {e : TypeId} {v : Value} {l : List (Str × Bool)} (h : w.ownsRow base e 2 v l.length (l.flatMap encP)) (hl : ∀ x ∈ l, x.1.length ≤ maxLen) : RSl 2 RPart w (Of v) [v] l := by
  rcases h.2 with ⟨rfl, h0⟩ | ⟨g, cap, cur, rfl, _, hg, h1, h2, h3, h4⟩
  · have : l = [] := List.eq_nil_of_length_eq_zero h0
    subst this
    exact ⟨none, 0, rfl, Nat.le_refl _, Nat.zero_le _, fun _ => rfl, fun i hi => by simp at hi⟩
  · refine ⟨some ⟨g, 0, none⟩, cap, rfl, h1, h2, fun h => (by cases h), fun i hi => ⟨⟨g, 0, none⟩, encP l[i], rfl, rfl, rfl, fun j hj => ?_, ?_⟩⟩
    · obtain ⟨g1, g2⟩ := encP_get l i hi
      obtain rfl | rfl : j = 0 ∨ j = 1 := by omega
      · exact h.cells (g := g) rfl _ _ g1
      · exact h.cells (g := g) rfl _ _ g2
    · exact ⟨by simp [encP], ⟨rfl, hl _ (List.getElem_mem hi)⟩, rfl⟩
theorem part_cells {w : World} {S : Nat → Prop} {v : Value} {l : List (Str × Bool)} (h : RSl 2 RPart w S [v] l) :
    ∃ A cap, v = .slice A l.length cap ∧ l.length ≤ cap ∧ cap ≤ maxLen ∧ ∀ i (hi : i < l.length), ∃ ad, A = some ad ∧ S ad.block ∧ w.cell? (ad.add (i * 2)) = some (.string ⟨l[i].1.toArray⟩) ∧ w.cell? ⟨(ad.add (i * 2)).block, (ad.add (i * 2)).off + 1, none⟩ = some (.bool l[i].2) ∧ l[i].1.length ≤ maxLen := by
  obtain ⟨A, cap, h1, h2, h3, h4⟩ := h.twos
  refine ⟨A, cap, h1, h2, h3, fun i hi => ?_⟩
  obtain ⟨ad, c, d, e1, e2, e3, e4, ⟨e5, e6⟩, e7⟩ := h4 i hi
  injection e5 with e5 _
  injection e7 with e7 _
  subst e5 e7
  exact ⟨ad, e1, e2, e3, e4, e6⟩
set_option maxHeartbeats 1000000 in
theorem parts_any (v : Value) (l : List (Str × Bool)) (w : World) (S : Nat → Prop) (hS : ∀ k, S k → k < w.heap.size) (hv : RSl 2 RPart w S [v] l) (hl : l.length ≤ 10000000) :
    Calls Try.prog 25 #[v] w fun e w' => ∃ v', e = .returned v' ∧ w'.ownsRow 0 48 2 v' l.length (l.flatMap encP) ∧ Step No w (Of v') w' := by
  obtain ⟨A, cap, rfl, hc1, hc2, hel⟩ := part_cells hv
  clear hv
  unfold maxLen at hc2
  have Hel := Lib.hid hel
  have HS := Lib.hid hS
  clear hel hS
  go_enter Try.func25, Try.ntmps25
  go_wp2
  go_loopw [3, 4] (fun o i wr => ∃ k : Nat, i = .int .i64 k ∧ k ≤ l.length ∧ Hid (wr.ownsRow 0 48 2 o k ((l.take k).flatMap encP) ∧ Step No w (Of o) wr)) (fun _ i _ => l.length - (intOf i).toNat)
  case atStart => exact ⟨0, rfl, by omega, World.ownsRow_nil _ _ _ _, Fr.refl _ _, fun k hk => by cases hk⟩
  case round =>
    obtain ⟨k, rfl, hk, hd⟩ := hrel
    by_cases hlt : k < l.length
    · obtain ⟨ad, rfl, hSa, hcell1, hcell2, _⟩ := Hel.out k hlt
      obtain ⟨d1, d2⟩ := hd.out
      have hb := HS.out _ hSa
      have k1 : wr.cell? (ad.add (k * 2)) = some (.string ⟨l[k].1.toArray⟩) := (d2.1.cell (by rw [block_add]; exact hb) (fun h => h)).trans hcell1
      have k2 : wr.cell? ⟨(ad.add (k * 2)).block, (ad.add (k * 2)).off + 1, none⟩ = some (.bool l[k].2) := (d2.1.cell (by show (ad.add (k * 2)).block < _; rw [block_add]; exact hb) (fun h => h)).trans hcell2
      have hbk : (ad.add (k * 2)).block < wr.heap.size := by rw [block_add]; exact Nat.lt_of_lt_of_le hb d2.1.size
      have hbn : (ad.add (k * 2)).block ≠ wr.heap.size := by omega
      obtain ⟨A1, c1, hu⟩ := own_form d1
      subst hu
      have Hd1 := Lib.hid d1
      have Hd2 := Lib.hid d2
      have htk := Lib.hid (show (l.take (k + 1)).flatMap encP = (l.take k).flatMap encP ++ encP l[k] by rw [List.take_succ_eq_append_getElem hlt, List.flatMap_append]; simp)
      clear hcell1 hcell2 d1 d2 hd
      go_wp2
      go_region_law (go_loud (refine step_pushD rfl (.tmp 11) (.tmp 23) 46 rfl 48 (.agg #[.string ByteArray.empty, .bool false]) 2 24 Try.underlying46 infoR rfl (by decide) (.slice A1 k c1) _ _ (by simp [Act.eval, Act.put]) Hd1.out #[.string ⟨l[k].1.toArray⟩, .bool l[k].2] (by simp [Act.eval, Act.put]) rfl (by intro u hu; simp at hu; rcases hu with rfl | rfl <;> rfl) (by omega) (by unfold maxLen; omega) ?_; intro g4 cap4 w4 p1 p2 p3; have P1 := Lib.hid p1; have P2 := Lib.hid (Hd2.out.trans (Step.of (n := k + 1) (c := cap4) p2 p3)); clear p1 p2 p3))
      all_goals
        go_wp2
        go_roundw
        case rel => exact ⟨k + 1, by go_num, by omega, by rw [htk.out]; exact P1.out, P2.out⟩
        case measure => simp [intOf]; omega
    · go_wp2
      go_ret
      have hn : l.take k = l := List.take_of_length_le (by omega)
      have hkl : k = l.length := by omega
      obtain ⟨d1, d2⟩ := hd.out
      rw [hn, hkl] at d1
      exact ⟨_, rfl, d1, d2⟩
end Mux
end Go.Proofs.Ytagkhljcknnhmaa
