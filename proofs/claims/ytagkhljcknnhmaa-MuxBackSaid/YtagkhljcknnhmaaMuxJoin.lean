/- The reference of package mux: parts joined. -/
import Derived.Test.YtagkhljcknnhmaaMuxSame
import Derived.Test.YtagkhljcknnhmaaMuxPlain
import Derived.StillTailTactics
namespace Go.Proofs.Ytagkhljcknnhmaa
open Go.RowKit
set_option linter.unusedVariables false
set_option linter.unusedSimpArgs false
namespace Mux
theorem add_flat (g j : Nat) : (⟨g, 0, none⟩ : Addr).add j = ⟨g, j, none⟩ := by
  unfold Addr.add; split <;> simp_all
theorem encP_set (r : List (Str × Bool)) (s t : Str) : ((r ++ [(s, false)]).flatMap encP).set (r.length * 2) (.string ⟨t.toArray⟩) = (r ++ [(t, false)]).flatMap encP := by
  rw [List.flatMap_append, List.flatMap_append, List.set_append_right _ _ (by rw [encP_len]; exact Nat.le_refl _), encP_len]
  simp [encP]
theorem join_last (r : List (Str × Bool)) (s t : Str) : joinStep (r ++ [(s, false)]) (t, false) = r ++ [(s ++ t, false)] := by simp [joinStep]
theorem join_else {out : List (Str × Bool)} (h : ¬ ∃ r s, out = r ++ [(s, false)]) (t : Str) : joinStep out (t, false) = if t = [] then out else out ++ [(t, false)] := by
  rcases List.eq_nil_or_concat out with rfl | ⟨r, ⟨y, b⟩, rfl⟩
  · simp [joinStep]
  · rw [List.concat_eq_append] at *
    cases b
    · exact absurd ⟨r, y, rfl⟩ h
    · simp [joinStep]
set_option maxHeartbeats 1000000 in
theorem join_any (v : Value) (l : List (Str × Bool)) (w : World) (S : Nat → Prop) (hS : ∀ k, S k → k < w.heap.size) (hv : RSl 2 RPart w S [v] l) (hl : l.length ≤ 10000000) (ht : tot l ≤ 10000000) :
    Calls Try.prog 28 #[v] w fun e w' => ∃ v', e = .returned v' ∧ w'.ownsRow 0 48 2 v' (joinR l).length ((joinR l).flatMap encP) ∧ Step No w (Of v') w' := by
  obtain ⟨A, cap, rfl, hc1, hc2, hel⟩ := part_cells hv
  clear hv
  unfold maxLen at hc2
  have Hel := Lib.hid hel
  have HS := Lib.hid hS
  clear hel hS
  go_enter Try.func28, Try.ntmps28
  go_wp2
  go_loopw [3, 4] (fun o i wr => ∃ k m : Nat, i = .int .i64 k ∧ k ≤ l.length ∧ m ≤ k ∧ Hid (m = (joinR (l.take k)).length) ∧ Hid (wr.ownsRow 0 48 2 o m ((joinR (l.take k)).flatMap encP) ∧ Step No w (Of o) wr)) (fun _ i _ => l.length - (intOf i).toNat)
  case atStart => exact ⟨0, 0, rfl, by omega, by omega, rfl, World.ownsRow_nil _ _ _ _, Fr.refl _ _, fun k hk => by cases hk⟩
  case round =>
    obtain ⟨k, m, rfl, hk, hmk, Hm, hd⟩ := hrel
    by_cases hlt : k < l.length
    · obtain ⟨ad, rfl, hSa, hcell1, hcell2, _⟩ := Hel.out k hlt
      obtain ⟨d1, d2⟩ := hd.out
      have hb := HS.out _ hSa
      have k1 : wr.cell? (ad.add (k * 2)) = some (.string ⟨l[k].1.toArray⟩) := (d2.1.cell (by rw [block_add]; exact hb) (fun h => h)).trans hcell1
      have k2 : wr.cell? ⟨(ad.add (k * 2)).block, (ad.add (k * 2)).off + 1, none⟩ = some (.bool l[k].2) := (d2.1.cell (by show (ad.add (k * 2)).block < _; rw [block_add]; exact hb) (fun h => h)).trans hcell2
      have hbk : (ad.add (k * 2)).block < wr.heap.size := by rw [block_add]; exact Nat.lt_of_lt_of_le hb d2.1.size
      have hbn : (ad.add (k * 2)).block ≠ wr.heap.size := by omega
      obtain ⟨A1, c1, hu⟩ := own_form d1
      subst hu
      have Hd1 := Lib.hid d1
      have Hd2 := Lib.hid d2
      have Hs := Lib.hid (joinR_step hlt)
      by_cases hr : l[k].2 = true
      · rw [hr] at k2
        clear hcell1 hcell2 d1 d2 hd
        have hst : joinR (l.take (k + 1)) = joinR (l.take k) ++ [l[k]] := by rw [Hs.out, joinStep, if_pos hr]
        have hx : l[k] = (l[k].1, true) := Prod.ext rfl hr
        have hst2 : (joinR (l.take (k + 1))).flatMap encP = (joinR (l.take k)).flatMap encP ++ #[Value.string ⟨l[k].1.toArray⟩, .bool true].toList := by rw [hst, List.flatMap_append, hx]; simp [encP]
        have Hst := Lib.hid (show (joinR (l.take (k + 1))).length = (joinR (l.take k)).length + 1 ∧ _ from ⟨by rw [hst]; simp, hst2⟩)
        clear hx hst hst2
        go_wp2_with (at_builtin; go_loud (refine wp_push rfl (.tmp 20) (.tmp 25) 46 rfl 48 (.agg #[.string ByteArray.empty, .bool false]) 2 24 Try.underlying46 infoR rfl (by decide) _ _ _ rfl Hd1.out #[.string ⟨l[k].1.toArray⟩, .bool true] rfl rfl (by intro u hu; simp at hu; rcases hu with rfl | rfl <;> rfl) (by omega) (by unfold maxLen; omega) ?_; intro g1 cap1 w1 h1 h2 h3; have P1 := Lib.hid h1; have P2 := Lib.hid (Hd2.out.trans (Step.of (n := m + 1) (c := cap1) h2 h3)); clear h1 h2 h3))
        all_goals
          go_wp2
          go_roundw
          case rel => exact ⟨k + 1, m + 1, by go_num, by omega, by omega, (show m + 1 = _ by rw [Hst.out.1, ← Hm.out]), by rw [Hst.out.2]; exact P1.out, P2.out⟩
          case measure => simp [intOf]; omega
      · have hr2 : l[k].2 = false := by simpa using hr
        rw [hr2] at k2
        clear hcell1 hcell2 d1 d2 hd
        by_cases hl2 : ∃ r s, joinR (l.take k) = r ++ [(s, false)]
        · obtain ⟨r, s, hrs⟩ := hl2
          obtain ⟨n, hn⟩ : ∃ n, n = r.length := ⟨_, rfl⟩
          have hmn : m = n + 1 := by rw [Hm.out, hrs, hn]; simp
          obtain ⟨g, rfl⟩ : ∃ g, A1 = some ⟨g, 0, none⟩ := by
            rcases Hd1.out.2 with ⟨_, h0⟩ | ⟨g, cap', cur, h0, _⟩
            · omega
            · injection h0 with h0 _; exact ⟨g, h0⟩
          have hg1 : (joinR (l.take k))[n]? = some (s, false) := by rw [hrs, hn]; simp
          obtain ⟨hg2, hg3⟩ := List.getElem?_eq_some_iff.1 hg1
          obtain ⟨c1', c2'⟩ := encP_get (joinR (l.take k)) n hg2
          rw [hg3] at c1' c2'
          have q1 : wr.cell? ⟨g, n * 2, none⟩ = some (.string ⟨s.toArray⟩) := by rw [← add_flat]; exact Hd1.out.cells (g := g) rfl _ _ c1'
          have q2 : wr.cell? ⟨g, n * 2 + 1, none⟩ = some (.bool false) := by rw [← add_flat]; exact Hd1.out.cells (g := g) rfl _ _ c2'
          have Hrs := Lib.hid hrs
          have Hn := Lib.hid hn
          clear hn hrs
          subst hmn
          clear c1' c2' hg3 hg2 hg1
          have hz1 : s.length ≤ 10000000 := by
            have := (joinR_tot l k (by omega)).1
            have := tot_take l k
            have := tot_mem (show (s, false) ∈ joinR (l.take k) by rw [Hrs.out]; simp)
            simp at this; omega
          have hz2 : l[k].1.length ≤ 10000000 := by
            have := tot_mem (List.getElem_mem hlt)
            omega
          go_wp2
          have fz : wr.frozen? ⟨g, n * 2, none⟩ = false := Hd1.out.frozenAt _
          go_region
          go_wp2
          go_roundw
          case rel =>
            have hx : l[k] = (l[k].1, false) := Prod.ext rfl hr2
            have hst : joinR (l.take (k + 1)) = r ++ [(s ++ l[k].1, false)] := by rw [Hs.out, Hrs.out, hx, join_last]
            have hso := Hd1.out.stored (n * 2) (.string ⟨(s ++ l[k].1).toArray⟩)
            rw [Hrs.out, Hn.out, encP_set, ← Hn.out] at hso
            refine ⟨k + 1, n + 1, by go_num, by omega, by omega, (show n + 1 = _ by rw [hst, Hn.out]; simp), ?_, ?_⟩
            · rw [hst]; exact hso.1
            · exact Hd2.out.trans (Step.of (n := n + 1) (c := c1) ((((Fr.refl (Of (.slice (some ⟨g, 0, none⟩) (n + 1) c1)) wr).setCell (p := ⟨g, n * 2, none⟩) (.inl (show Of _ g from rfl)) _).drew)) (.inl rfl))
          case measure => simp [intOf]; omega
        · have hje := join_else hl2 l[k].1
          have hx : l[k] = (l[k].1, false) := Prod.ext rfl hr2
          have hst : joinR (l.take (k + 1)) = if l[k].1 = [] then joinR (l.take k) else joinR (l.take k) ++ [(l[k].1, false)] := by rw [Hs.out, hx]; exact hje
          have Hst := Lib.hid hst
          have Hl2 := Lib.hid hl2
          clear hje hx hst hl2
          by_cases hm0 : m = 0
          · subst hm0
            by_cases he : l[k].1 = []
            · have hie : l[k].1.isEmpty = true := by rw [he]; rfl
              have Hst2 := Lib.hid (show joinR (l.take (k + 1)) = joinR (l.take k) by rw [Hst.out, if_pos he])
              clear he
              go_wp2
              go_roundw
              case rel => exact ⟨k + 1, 0, by go_num, by omega, by omega, (show 0 = _ by rw [Hst2.out, ← Hm.out]), by rw [Hst2.out]; exact Hd1.out, Hd2.out⟩
              case measure => simp [intOf]; omega
            · have hie : l[k].1.isEmpty = false := by simpa using he
              have hst2 : (joinR (l.take (k + 1))).flatMap encP = (joinR (l.take k)).flatMap encP ++ #[Value.string ⟨l[k].1.toArray⟩, .bool false].toList := by rw [Hst.out, if_neg he, List.flatMap_append]; simp [encP]
              have Hst2 := Lib.hid (show (joinR (l.take (k + 1))).length = (joinR (l.take k)).length + 1 ∧ _ from ⟨by rw [Hst.out, if_neg he]; simp, hst2⟩)
              clear he hst2
              go_wp2_with (at_builtin; go_loud (refine wp_push rfl (.tmp 58) (.tmp 63) 46 rfl 48 (.agg #[.string ByteArray.empty, .bool false]) 2 24 Try.underlying46 infoR rfl (by decide) _ _ _ rfl Hd1.out #[.string ⟨l[k].1.toArray⟩, .bool false] rfl rfl (by intro u hu; simp at hu; rcases hu with rfl | rfl <;> rfl) (by omega) (by unfold maxLen; omega) ?_; intro g1 cap1 w1 h1 h2 h3; have P1 := Lib.hid h1; have P2 := Lib.hid (Hd2.out.trans (Step.of (n := 0 + 1) (c := cap1) h2 h3)); clear h1 h2 h3))
              all_goals
                go_wp2
                go_roundw
                case rel => exact ⟨k + 1, 0 + 1, by go_num, by omega, by omega, (show 0 + 1 = _ by rw [Hst2.out.1, ← Hm.out]), by rw [Hst2.out.2]; exact P1.out, P2.out⟩
                case measure => simp [intOf]; omega
          · obtain ⟨r, s, hrs⟩ : ∃ r s, joinR (l.take k) = r ++ [(s, true)] := by
              rcases List.eq_nil_or_concat (joinR (l.take k)) with h | ⟨r, ⟨y, b⟩, h⟩
              · exact absurd (by rw [Hm.out, h]; rfl) hm0
              · rw [List.concat_eq_append] at h
                cases b
                · exact absurd ⟨r, y, h⟩ Hl2.out
                · exact ⟨r, y, h⟩
            obtain ⟨n, hn⟩ : ∃ n, n = r.length := ⟨_, rfl⟩
            have hmn : m = n + 1 := by rw [Hm.out, hrs, hn]; simp
            obtain ⟨g, rfl⟩ : ∃ g, A1 = some ⟨g, 0, none⟩ := by
              rcases Hd1.out.2 with ⟨_, h0⟩ | ⟨g, cap', cur, h0, _⟩
              · omega
              · injection h0 with h0 _; exact ⟨g, h0⟩
            have hg1 : (joinR (l.take k))[n]? = some (s, true) := by rw [hrs, hn]; simp
            obtain ⟨hg2, hg3⟩ := List.getElem?_eq_some_iff.1 hg1
            obtain ⟨c1', c2'⟩ := encP_get (joinR (l.take k)) n hg2
            rw [hg3] at c1' c2'
            have q2 : wr.cell? ⟨g, n * 2 + 1, none⟩ = some (.bool true) := by rw [← add_flat]; exact Hd1.out.cells (g := g) rfl _ _ c2'
            clear hn hrs hm0
            subst hmn
            clear c1' c2' hg3 hg2 hg1
            by_cases he : l[k].1 = []
            · have hie : l[k].1.isEmpty = true := by rw [he]; rfl
              have Hst2 := Lib.hid (show joinR (l.take (k + 1)) = joinR (l.take k) by rw [Hst.out, if_pos he])
              clear he
              go_wp2
              go_roundw
              case rel => exact ⟨k + 1, (n + 1), by go_num, by omega, by omega, (show (n + 1) = _ by rw [Hst2.out, ← Hm.out]), by rw [Hst2.out]; exact Hd1.out, Hd2.out⟩
              case measure => simp [intOf]; omega
            · have hie : l[k].1.isEmpty = false := by simpa using he
              have hst2 : (joinR (l.take (k + 1))).flatMap encP = (joinR (l.take k)).flatMap encP ++ #[Value.string ⟨l[k].1.toArray⟩, .bool false].toList := by rw [Hst.out, if_neg he, List.flatMap_append]; simp [encP]
              have Hst2 := Lib.hid (show (joinR (l.take (k + 1))).length = (joinR (l.take k)).length + 1 ∧ _ from ⟨by rw [Hst.out, if_neg he]; simp, hst2⟩)
              clear he hst2
              go_wp2_with (at_builtin; go_loud (refine wp_push rfl (.tmp 58) (.tmp 63) 46 rfl 48 (.agg #[.string ByteArray.empty, .bool false]) 2 24 Try.underlying46 infoR rfl (by decide) _ _ _ rfl Hd1.out #[.string ⟨l[k].1.toArray⟩, .bool false] rfl rfl (by intro u hu; simp at hu; rcases hu with rfl | rfl <;> rfl) (by omega) (by unfold maxLen; omega) ?_; intro g1 cap1 w1 h1 h2 h3; have P1 := Lib.hid h1; have P2 := Lib.hid (Hd2.out.trans (Step.of (n := (n + 1) + 1) (c := cap1) h2 h3)); clear h1 h2 h3))
              all_goals
                go_wp2
                go_roundw
                case rel => exact ⟨k + 1, (n + 1) + 1, by go_num, by omega, by omega, (show (n + 1) + 1 = _ by rw [Hst2.out.1, ← Hm.out]), by rw [Hst2.out.2]; exact P1.out, P2.out⟩
                case measure => simp [intOf]; omega
    · go_wp2
      go_ret
      have hn : l.take k = l := List.take_of_length_le (by omega)
      obtain ⟨d1, d2⟩ := hd.out
      rw [Hm.out, hn] at d1
      exact ⟨_, rfl, d1, d2⟩
end Mux
end Go.Proofs.Ytagkhljcknnhmaa
