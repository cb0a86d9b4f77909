/- Rights: where a console of a name stands. -/
import Derived.Test.YtompphakagoaeaaRtM
import Derived.Test.YtompphakagoaeaaFqE
import Derived.ScopeJumps
namespace Go.Proofs.Ytompphakagoaeaa
open Go.RowKit
set_option linter.unusedVariables false
set_option linter.unusedSimpArgs false
namespace Conf
open Word
def findR (l : List Con) (name : Str) : Int := idxR (fun c => decide (c.1 = name)) l
set_option maxHeartbeats 2000000 in
theorem find_any (c0 : Array Value) (x : C) (name : Str) (w : World) (S : Nat → Prop) (hS : ∀ k, S k → k < w.heap.size) (h : QConf w S c0.toList x) :
    Calls Try.prog 36 #[.agg c0, .string ⟨name.toArray⟩] w fun e w' => e = .returned (.int .i64 (findR x.1 name)) ∧ Fr No w w' := by
  obtain ⟨vC, vG, vU, vA, bs, hc0, hC, hG, hU, hA, hB⟩ := q_open h
  obtain ⟨AC, kC, rfl, hA1, hA2⟩ := hC.1.slice
  obtain ⟨l, hl⟩ : ∃ l, l = x.1 := ⟨_, rfl⟩
  rw [← hl] at hC hA1 ⊢
  have e0 : c0[0]? = some (.slice AC l.length kC) := by rw [hc0, hl]; rfl
  have hl12 := hC.2
  have HC := Lib.hid hC
  have HS := Lib.hid hS
  have hb := (Blk.new w 28 c0).cell 0
  rw [e0] at hb
  have HW := Lib.hid ((Fr.refl No w).alloc (.cells c0 28))
  unfold maxLen at hA2
  clear hC hG hU hA hB h hc0 e0 hl hS
  go_enter Try.func36, Try.ntmps36
  go_wp2_with fail
  go_step3
  go_wp2_with fail
  go_step3
  go_wp2_with fail
  obtain ⟨W, hWW⟩ : ∃ W, w.alloc (.cells c0 28) = W := ⟨_, rfl⟩
  have hlc : w.heap.size < W.heap.size := by rw [← hWW]; simp
  rw [hWW] at hb HW ⊢
  obtain ⟨bc, hbc⟩ : ∃ bc, w.heap.size = bc := ⟨_, rfl⟩
  rw [hbc] at hb hlc ⊢
  have HB := Lib.hid hb
  clear hWW hbc hb
  go_loopw [5, 11] (fun av iv wr => ∃ k : Nat, av = .int .i64 (-1) ∧ iv = .int .i64 k ∧ k ≤ l.length ∧ Hid (∀ j (h : j < l.length), j < k → l[j].1 ≠ name) ∧ Hid (Fr No W wr)) (fun _ i _ => l.length - (intOf i).toNat)
  case atStart => exact ⟨0, rfl, rfl, by omega, Lib.hid (fun j _ h => absurd h (by omega)), Lib.hid (Fr.refl _ _)⟩
  case round =>
    obtain ⟨k, rfl, rfl, hk, Hd, HF⟩ := hrel
    by_cases hlt : k < l.length
    · obtain ⟨ad, n1, n2, n3, n4, n5, n6, n7, n8, b, rfl, hla, k0, k1, k2, k3, k4, k5, k6, k7, k8, k9, b1⟩ := con_at HC.out (HW.out.then_no HF.out) HS.out hlt
      obtain ⟨a, ha⟩ : ∃ a, a = l[k].1 := ⟨_, rfl⟩
      rw [← ha] at k0
      have Ha := Lib.hid ha
      by_cases he : a = name
      · have hs := str_t he
        have hr := Lib.hid (show findR l name = k from idx_at hlt (fun j h hj => decide_eq_false (Hd.out j h hj)) (decide_eq_true (by rw [← ha]; exact he)))
        clear ha he
        go_wp2_with fail
        rw [Exit.noGoto_ret]
        go_ret
        exact ⟨ret_int hr.out.symm, (HW.out.then_no HF.out).alloc _⟩
      · have hs := str_f he
        have hn2 : Hid (∀ j (h : j < l.length), j < k + 1 → l[j].1 ≠ name) := by
          intro j h hj
          by_cases e : j = k
          · subst e; rw [← ha]; exact he
          · exact Hd.out j h (by omega)
        clear ha he
        go_wp2_with fail
        go_roundw
        case rel => exact ⟨k + 1, rfl, by go_num, by omega, hn2, Lib.hid (HF.out.alloc _)⟩
        case measure => simp [intOf]; omega
    · have hr := Lib.hid (show findR l name = -1 from idx_none (fun j h => decide_eq_false (Hd.out j h (by omega))))
      go_wp2_with fail
      rw [Exit.noGoto_ret]
      go_ret
      exact ⟨ret_int hr.out.symm, HW.out.then_no HF.out⟩
set_option maxHeartbeats 2000000 in
theorem rfind_any (c0 : Array Value) (x : C) (name : Str) (w : World) (S : Nat → Prop) (hS : ∀ k, S k → k < w.heap.size) (h : QConf w S c0.toList x) :
    Calls Try.prog 37 #[.agg c0, .string ⟨name.toArray⟩] w fun e w' => e = .returned (.int .i64 (findR x.1 name)) ∧ Fr No w w' := by
  obtain ⟨vC, vG, vU, vA, bs, hc0, hC, hG, hU, hA, hB⟩ := q_open h
  obtain ⟨AC, kC, rfl, hA1, hA2⟩ := hC.1.slice
  obtain ⟨l, hl⟩ : ∃ l, l = x.1 := ⟨_, rfl⟩
  rw [← hl] at hC hA1 ⊢
  have e0 : c0[0]? = some (.slice AC l.length kC) := by rw [hc0, hl]; rfl
  have hl12 := hC.2
  have HC := Lib.hid hC
  have HS := Lib.hid hS
  have hb := (Blk.new w 28 c0).cell 0
  rw [e0] at hb
  have HW := Lib.hid ((Fr.refl No w).alloc (.cells c0 28))
  unfold maxLen at hA2
  clear hC hG hU hA hB h hc0 e0 hl hS
  go_enter Try.func37, Try.ntmps37
  go_wp2_with fail
  obtain ⟨W, hWW⟩ : ∃ W, w.alloc (.cells c0 28) = W := ⟨_, rfl⟩
  rw [hWW] at hb HW ⊢
  obtain ⟨bc, hbc⟩ : ∃ bc, w.heap.size = bc := ⟨_, rfl⟩
  rw [hbc] at hb ⊢
  clear hWW hbc
  go_loop [5] (fun iv => ∃ k : Nat, iv = .int .i64 k ∧ k ≤ l.length ∧ Hid (∀ j (h : j < l.length), j < k → l[j].1 ≠ name)) (fun i => l.length - (intOf i).toNat)
  case atStart => exact ⟨0, rfl, by omega, Lib.hid (fun j _ h => absurd h (by omega))⟩
  case round =>
    obtain ⟨k, rfl, hk, Hd⟩ := hrel
    by_cases hlt : k < l.length
    · obtain ⟨ad, n1, n2, n3, n4, n5, n6, n7, n8, b, rfl, hla, k0, k1, k2, k3, k4, k5, k6, k7, k8, k9, b1⟩ := con_at HC.out HW.out HS.out hlt
      obtain ⟨a, ha⟩ : ∃ a, a = l[k].1 := ⟨_, rfl⟩
      rw [← ha] at k0
      clear k1 k2 k3 k4 k5 k6 k7 k8 k9 b1
      by_cases he : a = name
      · have hs := str_t he
        have hr := Lib.hid (show findR l name = k from idx_at hlt (fun j h hj => decide_eq_false (Hd.out j h hj)) (decide_eq_true (by rw [← ha]; exact he)))
        clear ha he
        go_wp2_with fail
        go_ret
        exact ⟨ret_int hr.out.symm, HW.out⟩
      · have hs := str_f he
        have hn2 : Hid (∀ j (h : j < l.length), j < k + 1 → l[j].1 ≠ name) := by
          intro j h hj
          by_cases e : j = k
          · subst e; rw [← ha]; exact he
          · exact Hd.out j h (by omega)
        clear ha he
        go_wp2_with fail
        go_round
        case rel => exact ⟨k + 1, by go_num, by omega, hn2⟩
        case measure => simp [intOf]; omega
    · have hr := Lib.hid (show findR l name = -1 from idx_none (fun j h => decide_eq_false (Hd.out j h (by omega))))
      go_wp2_with fail
      go_ret
      exact ⟨ret_int hr.out.symm, HW.out⟩
end Conf
end Go.Proofs.Ytompphakagoaeaa
