/- Rights: rows of numbers that are the same. -/
import Derived.Test.YtompphakagoaeaaRtY
namespace Go.Proofs.Ytompphakagoaeaa
open Go.RowKit
set_option linter.unusedVariables false
set_option linter.unusedSimpArgs false
namespace Conf
open Word
theorem own_get {w : World} {A : Option Addr} {n c : Nat} {l : List Int} (h : w.ownsRow 0 3 1 (.slice A n c) l.length (l.map encI)) : n = l.length ∧ l.length ≤ c ∧ c ≤ maxLen ∧ ∀ k (hk : k < l.length), ∃ ad, A = some ad ∧ w.cell? (ad.add k) = some (.int .i64 l[k]) := by
  have h1 := own_len h
  exact ⟨h1.1, h1.2.1, h1.2.2, fun k hk => own_news h k _ (by rw [List.getElem?_map, List.getElem?_eq_getElem hk]; rfl)⟩
theorem same_get (A B : Option Addr) (c c' : Nat) (l m : List Int) (w : World) (hc1 : l.length ≤ c) (hc2 : c ≤ maxLen) (hel : ∀ k (hk : k < l.length), ∃ ad, A = some ad ∧ w.cell? (ad.add k) = some (.int .i64 l[k])) (hd1 : m.length ≤ c') (hd2 : c' ≤ maxLen) (hem : ∀ k (hk : k < m.length), ∃ ad, B = some ad ∧ w.cell? (ad.add k) = some (.int .i64 m[k])) :
    Calls Try.prog 11 #[.slice A l.length c, .slice B m.length c'] w fun e w' => e = .returned (.bool (decide (l = m))) ∧ Fr No w w' := by
  unfold maxLen at hc2 hd2
  have Hel := Lib.hid hel
  have Hem := Lib.hid hem
  clear hel hem
  by_cases hlen : l.length = m.length
  · have Hlen := Lib.hid hlen
    have hb : ((l.length : Int) != (m.length : Int)) = false := by simp [hlen]
    have hlm : l.length ≤ m.length := by omega
    clear hlen
    go_enter Try.func11, Try.ntmps11
    go_wp2_with fail
    go_loopw [5] (fun i wr => ∃ k : Nat, i = .int .i64 k ∧ k ≤ l.length ∧ Hid (∃ n, wr = w.drewN n) ∧ Hid (∀ j (h : j < l.length) (h' : j < m.length), j < k → l[j] = m[j])) (fun i _ => l.length - (intOf i).toNat)
    case atStart => exact ⟨0, rfl, by omega, ⟨0, rfl⟩, fun j _ _ h => absurd h (by omega)⟩
    case round =>
      obtain ⟨k, rfl, hk, hw, hd⟩ := hrel
      obtain ⟨n, hn⟩ := hw.out
      subst hn
      by_cases hlt : k < l.length
      · have hlt' : k < m.length := by omega
        obtain ⟨ad, rfl, hcell⟩ := Hel.out k hlt
        obtain ⟨bd, rfl, hcell'⟩ := Hem.out k hlt'
        by_cases hx : l[k] = m[k]
        · have hx' : (l[k] != m[k]) = false := by simp [hx]
          have hn : Hid (∀ j (h : j < l.length) (h' : j < m.length), j < k + 1 → l[j] = m[j]) := by
            intro j h h' hj
            by_cases e : j = k
            · subst e; exact hx
            · exact hd.out j h h' (by omega)
          clear hd hx
          go_wp2_with fail
          go_quiet (fail)
          go_wp2_with fail
          go_roundw
          case rel => exact ⟨k + 1, by go_num, by omega, ⟨_, rfl⟩, hn⟩
          case measure => simp [intOf]; omega
        · have hx' : (l[k] != m[k]) = true := by simp [hx]
          have hne : decide (l = m) = false := by
            rw [decide_eq_false_iff_not]
            intro e; subst e; exact hx rfl
          have Hne := Lib.hid hne
          clear hd hx hne
          go_wp2_with fail
          go_quiet (fail)
          go_wp2_with fail
          go_ret
          exact ⟨by rw [Hne.out]; try rfl, (Fr.refl _ _).drewN _ |>.drewN _⟩
      · have he : Hid (decide (l = m) = true) := by
          show decide (l = m) = true
          rw [decide_eq_true_iff]
          exact List.ext_getElem Hlen.out fun j h h' => hd.out j h h' (by omega)
        clear hd
        go_wp2_with fail
        go_ret
        exact ⟨by rw [he.out]; try rfl, (Fr.refl _ _).drewN _⟩
  · have hb : ((l.length : Int) != (m.length : Int)) = true := by simp; omega
    have hne : decide (l = m) = false := by
      rw [decide_eq_false_iff_not]
      intro e; subst e; exact hlen rfl
    have Hne := Lib.hid hne
    clear hlen hne
    go_enter Try.func11, Try.ntmps11
    go_wp2_with fail
    go_ret
    exact ⟨by rw [Hne.out]; try rfl, Fr.refl _ _⟩
theorem same_own (v u : Value) (l m : List Int) (w : World) (hv : w.ownsRow 0 3 1 v l.length (l.map encI)) (hu : w.ownsRow 0 3 1 u m.length (m.map encI)) :
    Calls Try.prog 11 #[v, u] w fun e w' => e = .returned (.bool (decide (l = m))) ∧ Fr No w w' := by
  obtain ⟨A, c, rfl⟩ := own_form hv
  obtain ⟨B, c', rfl⟩ := own_form hu
  obtain ⟨-, hc1, hc2, hel⟩ := own_get hv
  obtain ⟨-, hd1, hd2, hem⟩ := own_get hu
  exact same_get A B c c' l m w hc1 hc2 hel hd1 hd2 hem
end Conf
end Go.Proofs.Ytompphakagoaeaa
