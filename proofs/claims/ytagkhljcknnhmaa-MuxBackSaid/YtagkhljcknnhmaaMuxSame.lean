/- The reference of package mux: are two lists of parts the same. -/
import Derived.Test.YtagkhljcknnhmaaMuxParts
namespace Go.Proofs.Ytagkhljcknnhmaa
open Go.RowKit
set_option linter.unusedVariables false
set_option linter.unusedSimpArgs false
namespace Mux
theorem neq_part (W : World) (a b : Str) (p q : Bool) :
    (binOp .neq 48 (.agg #[.string ⟨a.toArray⟩, .bool p]) (.agg #[.string ⟨b.toArray⟩, .bool q])).run Try.prog W = .ok (.bool (!decide ((a, p) = (b, q)))) W := by
  have h1 : Try.prog.underlying 48 = some (.struct (Try.prog.fieldsOf 48)) := by kernel_rfl
  have h2 : Try.prog.stoodInHeld 48 = false := by kernel_rfl
  have hu := Try.underlying48
  rw [run_neq_struct, run_equalIn_struct W _ _ _ _ h1 h2]
  simp [Program.fieldsOf, hu, Op.eqFields, go_sem]
  by_cases e1 : a = b <;> by_cases e2 : p = q <;> simp [e1, e2]
set_option maxHeartbeats 1000000 in
theorem same_any (v u : Value) (l m : List (Str × Bool)) (w : World) (S T : Nat → Prop) (hv : RSl 2 RPart w S [v] l) (hu : RSl 2 RPart w T [u] m) :
    Calls Try.prog 27 #[v, u] w fun e w' => e = .returned (.bool (decide (l = m))) ∧ ∃ n, w' = w.drewN n := by
  obtain ⟨A, cap, rfl, hc1, hc2, hel⟩ := part_cells hv
  obtain ⟨B, cap', rfl, hd1, hd2, hem⟩ := part_cells hu
  clear hv hu
  unfold maxLen at hc2 hd2
  have Hel := Lib.hid hel
  have Hem := Lib.hid hem
  clear hel hem
  by_cases hlen : l.length = m.length
  · have Hlen := Lib.hid hlen
    have hb : ((l.length : Int) != (m.length : Int)) = false := by simp [hlen]
    have hlm : l.length ≤ m.length := by omega
    clear hlen
    go_enter Try.func27, Try.ntmps27
    go_wp2
    go_loopw [5] (fun i wr => ∃ k : Nat, i = .int .i64 k ∧ k ≤ l.length ∧ Hid (∃ n, wr = w.drewN n) ∧ Hid (∀ j (h : j < l.length) (h' : j < m.length), j < k → l[j] = m[j])) (fun i _ => l.length - (intOf i).toNat)
    case atStart => exact ⟨0, rfl, by omega, ⟨0, rfl⟩, fun j _ _ h => absurd h (by omega)⟩
    case round =>
      obtain ⟨k, rfl, hk, hw, hd⟩ := hrel
      obtain ⟨n, hn⟩ := hw.out
      subst hn
      by_cases hlt : k < l.length
      · have hlt' : k < m.length := by omega
        obtain ⟨ad, rfl, _, hcell1, hcell2, _⟩ := Hel.out k hlt
        obtain ⟨bd, rfl, _, hcell3, hcell4, _⟩ := Hem.out k hlt'
        have hg : Try.prog.eqGuardType Try.prog.depth 48 = false := by kernel_rfl
        have hq := fun W : World => neq_part W l[k].1 m[k].1 l[k].2 m[k].2
        by_cases hx : l[k] = m[k]
        · have hx' : decide ((l[k].1, l[k].2) = (m[k].1, m[k].2)) = true := decide_eq_true hx
          rw [hx'] at hq
          have hn : Hid (∀ j (h : j < l.length) (h' : j < m.length), j < k + 1 → l[j] = m[j]) := by
            intro j h h' hj
            by_cases e : j = k
            · subst e; exact hx
            · exact hd.out j h h' (by omega)
          clear hd hx hx'
          go_wp2
          go_quiet (fail)
          go_wp2
          go_roundw
          case rel => exact ⟨k + 1, by go_num, by omega, ⟨_, rfl⟩, hn⟩
          case measure => simp [intOf]; omega
        · have hx' : decide ((l[k].1, l[k].2) = (m[k].1, m[k].2)) = false := decide_eq_false hx
          rw [hx'] at hq
          have hne : decide (l = m) = false := by
            rw [decide_eq_false_iff_not]
            intro e; subst e; exact hx rfl
          have Hne := Lib.hid hne
          clear hd hx hne hx'
          go_wp2
          go_quiet (fail)
          go_wp2
          go_ret
          exact ⟨ret_bool Hne.out.symm, _, World.drewN_drewN _ _ _⟩
      · have he : Hid (decide (l = m) = true) := by
          show decide (l = m) = true
          rw [decide_eq_true_iff]
          exact List.ext_getElem Hlen.out fun j h h' => hd.out j h h' (by omega)
        clear hd
        go_wp2
        go_ret
        exact ⟨ret_bool he.out.symm, n, rfl⟩
  · have hb : ((l.length : Int) != (m.length : Int)) = true := by simp; omega
    have hne : decide (l = m) = false := by
      rw [decide_eq_false_iff_not]
      intro e; subst e; exact hlen rfl
    have Hne := Lib.hid hne
    clear hlen hne
    go_enter Try.func27, Try.ntmps27
    go_wp2
    go_ret
    exact ⟨ret_bool Hne.out.symm, 0, rfl⟩
end Mux
end Go.Proofs.Ytagkhljcknnhmaa
