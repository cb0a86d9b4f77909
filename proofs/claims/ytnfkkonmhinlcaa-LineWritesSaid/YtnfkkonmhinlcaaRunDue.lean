/- The reference of package runner: what is due. -/
import Derived.Test.YtnfkkonmhinlcaaRunRef2
namespace Go.Proofs.Ytnfkkonmhinlcaa
open Go.RowKit
set_option linter.unusedVariables false
set_option linter.unusedSimpArgs false
namespace Run
set_option maxHeartbeats 2000000 in
theorem due_any (v : Value) (l : List O) (start was now : Int) (w : World) (S : Nat → Prop) (hS : ∀ k, S k → k < w.heap.size) (hv : RSl 3 ROp w S [v] l) (hl : l.length ≤ 1000) (hst : 0 ≤ start ∧ start ≤ 1099511627776) (hck : chkR start l = 0) :
    Calls Try.prog 73 #[v, .int .i64 start, .int .i64 was, .int .i64 now] w fun e w' => ∃ v', e = .returned v' ∧ w'.ownsRow 0 69 3 v' (dueT was now (timesR start l)).length ((dueT was now (timesR start l)).flatMap encO) ∧ Step No w (Of v') w' := by
  obtain ⟨A, cap, rfl, hc1, hc2, hel⟩ := op_cells hv
  unfold maxLen at hc2
  have Hel := Lib.hid hel
  have HC := Lib.hid hck
  have HS := Lib.hid hS
  clear hel hv hck hS
  go_enter Try.func73, Try.ntmps73
  go_wp2
  go_loopw [9, 10, 11] (fun o ev iv wr => ∃ (k m : Nat) (at_ : Int) (out : List O), iv = .int .i64 k ∧ ev = .int .i64 at_ ∧ k ≤ l.length ∧ (0 ≤ at_ ∧ at_ ≤ 1099511627776) ∧ m ≤ k ∧ Hid (dueT was now (timesR start l) = out ++ dueT was now (timesR at_ (l.drop k)) ∧ chkR at_ (l.drop k) = 0 ∧ m = out.length) ∧ Hid (wr.ownsRow 0 69 3 o m (out.flatMap encO) ∧ Step No w (Of o) wr)) (fun _ _ i _ => l.length - (intOf i).toNat)
  case atStart => exact ⟨0, 0, start, [], rfl, rfl, by omega, hst, by omega, ⟨rfl, HC.out, rfl⟩, World.ownsRow_nil _ _ _ _, Fr.refl _ _, fun k hk => by cases hk⟩
  case round =>
    obtain ⟨k, m, at_, out, rfl, rfl, hk, hat, hmk, Hd, hw⟩ := hrel
    obtain ⟨d1, d2⟩ := hw.out
    by_cases hlt : k < l.length
    · obtain ⟨ad, rfl, hSa, q1, q2, q3, _⟩ := Hel.out k hlt
      obtain ⟨o1, o2, o3⟩ := ok_drop hlt Hd.out.2.1
      have hnx : dueT was now (timesR start l) = if (l[k].1 != 2 && (decide (was < at_ + l[k].2.2) && decide (at_ + l[k].2.2 ≤ now))) = true then (out ++ [l[k]]) ++ dueT was now (timesR (at_ + l[k].2.2) (l.drop (k + 1))) else out ++ dueT was now (timesR (at_ + l[k].2.2) (l.drop (k + 1))) := by
        rw [Hd.out.1, times_drop hlt]
        unfold dueT
        by_cases hp : (l[k].1 != 2 && (decide (was < at_ + l[k].2.2) && decide (at_ + l[k].2.2 ≤ now))) = true
        · rw [if_pos hp, List.filter_cons_of_pos (by exact hp)]; simp
        · rw [if_neg hp, List.filter_cons_of_neg (by exact hp)]
      have HN := Lib.hid hnx
      have HO := Lib.hid o3
      have HM := Lib.hid Hd.out.2.2
      have hb := HS.out _ hSa
      obtain ⟨x, hx⟩ : ∃ x, x = l[k] := ⟨_, rfl⟩
      have HX := Lib.hid hx
      rw [← hx] at q1 q2 q3 o1 o2
      have k1 : wr.cell? (ad.add (k * 3)) = some (.int .i64 x.1) := (d2.1.cell (by rw [block_add]; exact hb) (fun h => h)).trans q1
      have k2 : wr.cell? ⟨(ad.add (k * 3)).block, (ad.add (k * 3)).off + 1, none⟩ = some (.string ⟨x.2.1.toArray⟩) := (d2.1.cell (by show (ad.add (k * 3)).block < _; rw [block_add]; exact hb) (fun h => h)).trans q2
      have k3 : wr.cell? ⟨(ad.add (k * 3)).block, (ad.add (k * 3)).off + 2, none⟩ = some (.int .i64 x.2.2) := (d2.1.cell (by show (ad.add (k * 3)).block < _; rw [block_add]; exact hb) (fun h => h)).trans q3
      have hbk : (ad.add (k * 3)).block < wr.heap.size := by rw [block_add]; exact Nat.lt_of_lt_of_le hb d2.1.size
      have hbn : (ad.add (k * 3)).block ≠ wr.heap.size := by omega
      obtain ⟨A1, c1, hu⟩ := own_form d1
      subst hu
      have Hd1 := Lib.hid d1
      have Hd2 := Lib.hid d2
      clear hnx o3 q1 q2 q3 d1 d2 hw
      by_cases hp : x.1 ≠ 2 ∧ was < at_ + x.2.2 ∧ at_ + x.2.2 ≤ now
      · obtain ⟨p1, p2, p3⟩ := hp
        have e1 : (x.1 != 2) = true := by simpa using p1
        have HN2 := Lib.hid (show dueT was now (timesR start l) = (out ++ [x]) ++ dueT was now (timesR (at_ + x.2.2) (l.drop (k + 1))) by rw [HN.out, ← HX.out, e1, decide_eq_true p2, decide_eq_true p3]; rfl)
        clear HN hx p1
        go_wp2_with (at_builtin; go_loud (refine wp_push rfl (.tmp 42) (.tmp 47) 33 rfl 69 (.agg #[.int .i64 0, .string ByteArray.empty, .int .i64 0]) 3 32 Try.underlying33 infoO rfl (by decide) _ _ _ rfl Hd1.out #[.int .i64 x.1, .string ⟨x.2.1.toArray⟩, .int .i64 x.2.2] rfl rfl (by intro u hu; simp at hu; rcases hu with rfl | rfl | rfl <;> rfl) (by omega) (by unfold maxLen; omega) ?_; intro g2 cap2 w2 h1 h2 h3; have P2 := Lib.hid h1; have F2 := Lib.hid (Hd2.out.trans (Step.of (n := m + 1) (c := cap2) h2 h3)); clear h1 h2 h3))
        go_roundw
        case rel =>
          refine ⟨k + 1, m + 1, _, out ++ [x], by go_num, rfl, by omega, by omega, by omega, ⟨HN2.out, by rw [HX.out]; exact HO.out, by rw [HM.out]; simp⟩, ?_, F2.out⟩
          rw [List.flatMap_append]
          exact P2.out
        case measure => simp [intOf]; omega
      · have HN2 := Lib.hid (show dueT was now (timesR start l) = out ++ dueT was now (timesR (at_ + x.2.2) (l.drop (k + 1))) by
          rw [HN.out, ← HX.out, if_neg]
          simp
          intro a b
          exact Int.not_le.1 fun c => hp ⟨a, b, c⟩)
        clear HN hx
        have hcs : (x.1 != 2) = false ∨ (x.1 != 2) = true ∧ (at_ + x.2.2 ≤ was ∨ was < at_ + x.2.2 ∧ now < at_ + x.2.2) := by
          cases e : x.1 != 2
          · exact .inl rfl
          · have e' : x.1 ≠ 2 := by simpa using e
            refine .inr ⟨rfl, ?_⟩
            by_cases a : was < at_ + x.2.2
            · exact .inr ⟨a, Int.not_le.1 fun c => hp ⟨e', a, c⟩⟩
            · exact .inl (Int.not_lt.1 a)
        clear hp
        rcases hcs with e1 | ⟨e1, e2 | ⟨e2, e3⟩⟩
        all_goals
          go_wp2
          go_roundw
          case rel => exact ⟨k + 1, m, _, out, by go_num, rfl, by omega, by omega, by omega, ⟨HN2.out, by rw [HX.out]; exact HO.out, HM.out⟩, Hd1.out, Hd2.out⟩
          case measure => simp [intOf]; omega
    · have hd : dueT was now (timesR start l) = out := by
        have := Hd.out.1
        rw [List.drop_of_length_le (by omega)] at this
        simpa [timesR, dueT] using this
      have HD := Lib.hid hd
      have HM := Lib.hid Hd.out.2.2
      clear hd
      go_wp2
      go_ret
      refine ⟨_, rfl, ?_, d2⟩
      rw [HD.out, ← HM.out]
      exact d1
end Run
end Go.Proofs.Ytnfkkonmhinlcaa
