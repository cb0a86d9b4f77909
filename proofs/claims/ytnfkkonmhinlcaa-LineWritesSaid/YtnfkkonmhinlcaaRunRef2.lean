/- The reference of package runner: when all ends, and what is next. -/
import Derived.Test.YtnfkkonmhinlcaaRunRef
namespace Go.Proofs.Ytnfkkonmhinlcaa
open Go.RowKit
set_option linter.unusedVariables false
set_option linter.unusedSimpArgs false
namespace Run
theorem times_drop {l : List O} {k : Nat} (h : k < l.length) (a : Int) : timesR a (l.drop k) = (a + l[k].2.2, l[k]) :: timesR (a + l[k].2.2) (l.drop (k + 1)) := by
  rw [List.drop_eq_getElem_cons h]; rfl
/-- A step among those that may be: no more is left than is room. -/
theorem ok_drop {l : List O} {k : Nat} (h : k < l.length) {a : Int} (hc : chkR a (l.drop k) = 0) : 0 ≤ l[k].2.2 ∧ a + l[k].2.2 ≤ 1099511627776 ∧ chkR (a + l[k].2.2) (l.drop (k + 1)) = 0 := by
  rw [List.drop_eq_getElem_cons h] at hc
  exact chk_cons hc
def NextIs (r : Int × Bool) (e : Ending) : Prop := e = .returned (.tuple #[.int .i64 r.1, .bool r.2])
set_option maxHeartbeats 1000000 in
theorem rnext_any (v : Value) (l : List O) (start was : Int) (w : World) (S : Nat → Prop) (hv : RSl 3 ROp w S [v] l) (hl : l.length ≤ 1000) (hst : 0 ≤ start ∧ start ≤ 1099511627776) (hck : chkR start l = 0) :
    Calls Try.prog 46 #[v, .int .i64 start, .int .i64 was] w fun e w' => NextIs (nextT was (endsR start l) (timesR start l)) e ∧ ∃ n, w' = w.drewN n := by
  obtain ⟨A, cap, rfl, hc1, hc2, hel⟩ := op_cells hv
  unfold maxLen at hc2
  have Hel := Lib.hid hel
  have HC := Lib.hid hck
  clear hel hv hck
  go_enter Try.func46, Try.ntmps46
  go_wp2
  go_loopw [8, 9] (fun ev iv wr => ∃ (k : Nat) (at_ : Int), iv = .int .i64 k ∧ ev = .int .i64 at_ ∧ k ≤ l.length ∧ (0 ≤ at_ ∧ at_ ≤ 1099511627776) ∧ Hid (nextT was (endsR start l) (timesR start l) = nextT was (endsR at_ (l.drop k)) (timesR at_ (l.drop k)) ∧ chkR at_ (l.drop k) = 0) ∧ Hid (∃ n, wr = w.drewN n)) (fun _ i _ => l.length - (intOf i).toNat)
  case atStart => exact ⟨0, start, rfl, rfl, by omega, hst, ⟨rfl, HC.out⟩, 0, rfl⟩
  case round =>
    obtain ⟨k, at_, rfl, rfl, hk, hat, Hd, hw⟩ := hrel
    obtain ⟨n, hn⟩ := hw.out
    subst hn
    by_cases hlt : k < l.length
    · obtain ⟨ad, rfl, _, q1, q2, q3, _⟩ := Hel.out k hlt
      obtain ⟨o1, o2, o3⟩ := ok_drop hlt Hd.out.2
      have hnx : nextT was (endsR start l) (timesR start l) = if (l[k].1 != 2 && decide (was < at_ + l[k].2.2)) = true then (at_ + l[k].2.2, true) else nextT was (endsR (at_ + l[k].2.2) (l.drop (k + 1))) (timesR (at_ + l[k].2.2) (l.drop (k + 1))) := by
        rw [Hd.out.1, times_drop hlt, ends_drop hlt]
        unfold nextT
        by_cases hp : (l[k].1 != 2 && decide (was < at_ + l[k].2.2)) = true
        · rw [if_pos hp, List.find?_cons_of_pos (by exact hp)]
        · rw [if_neg hp, List.find?_cons_of_neg (by exact hp)]
      have HN := Lib.hid hnx
      have HO := Lib.hid o3
      clear hnx o3
      cases e1 : l[k].1 != 2
      · have HN2 := Lib.hid (show nextT was (endsR start l) (timesR start l) = nextT was (endsR (at_ + l[k].2.2) (l.drop (k + 1))) (timesR (at_ + l[k].2.2) (l.drop (k + 1))) by rw [HN.out, e1]; rfl)
        clear HN
        go_wp2
        go_roundw
        case rel => exact ⟨k + 1, _, by go_num, rfl, by omega, by omega, ⟨HN2.out, HO.out⟩, _, rfl⟩
        case measure => simp [intOf]; omega
      · by_cases e2 : was < at_ + l[k].2.2
        · have HN2 := Lib.hid (show nextT was (endsR start l) (timesR start l) = (at_ + l[k].2.2, true) by rw [HN.out, e1, decide_eq_true e2]; rfl)
          clear HN
          go_wp2
          go_ret2
          exact ⟨by rw [HN2.out]; rfl, _, rfl⟩
        · have HN2 := Lib.hid (show nextT was (endsR start l) (timesR start l) = nextT was (endsR (at_ + l[k].2.2) (l.drop (k + 1))) (timesR (at_ + l[k].2.2) (l.drop (k + 1))) by rw [HN.out, e1, decide_eq_false e2]; rfl)
          clear HN
          go_wp2
          go_roundw
          case rel => exact ⟨k + 1, _, by go_num, rfl, by omega, by omega, ⟨HN2.out, HO.out⟩, _, rfl⟩
          case measure => simp [intOf]; omega
    · have hd : nextT was (endsR start l) (timesR start l) = if was < at_ then (at_, true) else (0, false) := by
        have := Hd.out.1
        rw [List.drop_of_length_le (by omega)] at this
        exact this
      have HD := Lib.hid hd
      clear hd
      by_cases e : was < at_
      · go_wp2
        go_ret2
        exact ⟨by rw [HD.out, if_pos e]; rfl, n, rfl⟩
      · go_wp2
        go_ret2
        exact ⟨by rw [HD.out, if_neg (Int.not_lt.2 e)]; rfl, n, rfl⟩
end Run
end Go.Proofs.Ytnfkkonmhinlcaa
