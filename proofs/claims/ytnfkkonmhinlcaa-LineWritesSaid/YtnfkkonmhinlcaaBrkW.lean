/- Package brk: steps as ops, joined, and as text. Printed by gen_brkw.py. -/
import Derived.Test.YtnfkkonmhinlcaaBrkV
import Derived.Deep.LoopGhost
namespace Go.Proofs.Ytnfkkonmhinlcaa
open Go.RowKit
set_option linter.unusedVariables false
set_option linter.unusedSimpArgs false
namespace Brk
open Digit
def vOp (x : Op) : Value := .agg #[.int .i64 x.1, .string ⟨x.2.1.toArray⟩, .int .i64 x.2.2]
theorem op_sends (s : Str) (w : World) : Calls Try.prog 98 #[.string ⟨s.toArray⟩] w fun e w' => e = .returned (vOp (1, s, 0)) ∧ Fr No w w' := by
  go_enter Try.func98, Try.ntmps98
  go_wp2
  refine bodyPost_ret (v := .agg #[.int .i64 1, .string ⟨s.toArray⟩, .int .i64 0]) ?_ rfl ⟨rfl, by first | exact (Fr.refl _ _).alloc _ | exact ((Fr.refl _ _).alloc _).alloc _⟩
  (simp [results, Try.f98, go_sem]; try rfl)
theorem op_waits (n : Int) (w : World) : Calls Try.prog 99 #[.int .i64 n] w fun e w' => e = .returned (vOp (2, [], n)) ∧ Fr No w w' := by
  go_enter Try.func99, Try.ntmps99
  go_wp2
  refine bodyPost_ret (v := .agg #[.int .i64 2, .string ByteArray.empty, .int .i64 n]) ?_ rfl ⟨rfl, by first | exact (Fr.refl _ _).alloc _ | exact ((Fr.refl _ _).alloc _).alloc _⟩
  (simp [results, Try.f99, go_sem]; try rfl)
theorem op_stops  (w : World) : Calls Try.prog 100 #[.agg #[]] w fun e w' => e = .returned (vOp (3, [], 0)) ∧ Fr No w w' := by
  go_enter Try.func100, Try.ntmps100
  go_wp2
  refine bodyPost_ret (v := .agg #[.int .i64 3, .string ByteArray.empty, .int .i64 0]) ?_ rfl ⟨rfl, by first | exact (Fr.refl _ _).alloc _ | exact ((Fr.refl _ _).alloc _).alloc _⟩
  (simp [results, Try.f100, go_sem]; try rfl)
theorem as_send_send (s : Str) (w : World) : (Instr.typeAssert (.iface 119 (.string ⟨s.toArray⟩)) 99 119 true).run Try.prog w = .ok (.tuple #[.string ⟨s.toArray⟩, .bool true]) w := by kernel_rfl
theorem as_send_wait (s : Str) (w : World) : (Instr.typeAssert (.iface 119 (.string ⟨s.toArray⟩)) 99 121 true).run Try.prog w = .ok (.tuple #[.int .i64 0, .bool false]) w := by kernel_rfl
theorem as_wait_send (n : Int) (w : World) : (Instr.typeAssert (.iface 121 (.int .i64 n)) 99 119 true).run Try.prog w = .ok (.tuple #[.string ByteArray.empty, .bool false]) w := by kernel_rfl
theorem as_wait_wait (n : Int) (w : World) : (Instr.typeAssert (.iface 121 (.int .i64 n)) 99 121 true).run Try.prog w = .ok (.tuple #[.int .i64 n, .bool true]) w := by kernel_rfl
theorem as_stop_send  (w : World) : (Instr.typeAssert (.iface 132 (.agg #[])) 99 119 true).run Try.prog w = .ok (.tuple #[.string ByteArray.empty, .bool false]) w := by kernel_rfl
theorem as_stop_wait  (w : World) : (Instr.typeAssert (.iface 132 (.agg #[])) 99 121 true).run Try.prog w = .ok (.tuple #[.int .i64 0, .bool false]) w := by kernel_rfl
def joinV (a b : Op) : Value := if a.1 = b.1 ∧ b.1 < 3 then .tuple #[encI (joinR a b), .bool true] else .tuple #[.nilIface, .bool false]
theorem join_any {a b : Op} (ha : Fine a) (hb : Fine b) (h1 : a.2.1.length + b.2.1.length ≤ 1000000) (h2 : a.2.2 + b.2.2 ≤ 1000000) (w : World) : Calls Try.prog 52 #[encI a, encI b] w fun e w' => e = .returned (joinV a b) ∧ w = w' := by
  cases ha with
  | send s hs =>
    have f1 := as_send_send s
    have f2 := as_send_wait s
    cases hb with
    | send t ht =>
      have f3 := as_send_send t
      rw [show joinV (1, s, 0) (1, t, 0) = .tuple #[.iface 119 (.string ⟨(s ++ t).toArray⟩), .bool true] from rfl, encI_send, encI_send]
      have h1 : s.length + t.length ≤ 1000000 := h1
      have hadd := fun W => Go.run_string_add_sum (P := Try.prog) (w := W) ⟨s.toArray⟩ ⟨t.toArray⟩ (by simp [ByteArray.size]; omega)
      go_enter Try.func52, Try.ntmps52
      go_wp2
      go_ret2
      exact ⟨by first | rfl | simp | simp [ByteArray.ext_iff], rfl⟩
    | wait m hm =>
      have f3 := as_wait_send (m : Nat)
      have f4 := as_wait_wait (m : Nat)
      rw [show joinV (1, s, 0) (2, [], (m : Nat)) = .tuple #[.nilIface, .bool false] from rfl, encI_send, encI_wait]
      go_enter Try.func52, Try.ntmps52
      go_wp2
      go_ret2
      exact ⟨rfl, rfl⟩
    | stop =>
      have f3 := as_stop_send
      have f4 := as_stop_wait
      rw [show joinV (1, s, 0) (3, [], 0) = .tuple #[.nilIface, .bool false] from rfl, encI_send, encI_stop]
      go_enter Try.func52, Try.ntmps52
      go_wp2
      go_ret2
      exact ⟨rfl, rfl⟩
  | wait n hn =>
    have f1 := as_wait_send (n : Nat)
    have f2 := as_wait_wait (n : Nat)
    cases hb with
    | send t ht =>
      have f3 := as_send_send t
      have f4 := as_send_wait t
      rw [show joinV (2, [], (n : Nat)) (1, t, 0) = .tuple #[.nilIface, .bool false] from rfl, encI_send, encI_wait]
      go_enter Try.func52, Try.ntmps52
      go_wp2
      go_ret2
      exact ⟨rfl, rfl⟩
    | wait m hm =>
      have f3 := as_wait_send (m : Nat)
      have f4 := as_wait_wait (m : Nat)
      rw [show joinV (2, [], (n : Nat)) (2, [], (m : Nat)) = .tuple #[.iface 121 (.int .i64 ((n : Int) + (m : Int))), .bool true] from rfl, encI_wait, encI_wait]
      have h2 : (n : Int) + (m : Int) ≤ 1000000 := h2
      go_enter Try.func52, Try.ntmps52
      go_wp2
      go_ret2
      exact ⟨rfl, rfl⟩
    | stop =>
      have f3 := as_stop_send
      have f4 := as_stop_wait
      rw [show joinV (2, [], (n : Nat)) (3, [], 0) = .tuple #[.nilIface, .bool false] from rfl, encI_wait, encI_stop]
      go_enter Try.func52, Try.ntmps52
      go_wp2
      go_ret2
      exact ⟨rfl, rfl⟩
  | stop =>
    have f1 := as_stop_send
    have f2 := as_stop_wait
    rw [show joinV (3, [], 0) b = .tuple #[.nilIface, .bool false] from if_neg (fun h => by have e1 : (3 : Int) = b.1 := h.1; have := h.2; omega), encI_stop]
    generalize encI b = v
    go_enter Try.func52, Try.ntmps52
    go_wp2
    go_ret2
    exact ⟨rfl, rfl⟩
theorem pad_len (m : Nat) (h : m ≤ 9223372036854775807) : (padR (m : Nat) 2).length ≤ 22 := by
  unfold padR
  split
  · simp
  · have := dec_20 (n := (m : Int).natAbs) (by omega)
    rw [List.length_append, List.length_replicate]
    omega
theorem text_no {x : Op} (h : textR x = none) : tx x = [] := by unfold tx; rw [h]; rfl
theorem text_yes {x : Op} {t : Str} (h : textR x = some t) : tx x = t := by unfold tx; rw [h]; rfl
/-- The cases of an op. -/
inductive Kase : Op → Prop
  | send (s : Str) (h : s ≠ []) : Kase (1, s, 0)
  | send0 (n : Int) : Kase (1, [], n)
  | sendN (s : Str) (n : Int) (h : s ≠ []) (hn : n ≠ 0) : Kase (1, s, n)
  | wait (n : Nat) (h : 1 ≤ n) : Kase (2, [], (n : Nat))
  | wait0 (s : Str) (n : Int) (h : s ≠ []) : Kase (2, s, n)
  | waitN (n : Int) (hn : n ≤ 0) : Kase (2, [], n)
  | stop : Kase (3, [], 0)
  | stop0 (s : Str) (n : Int) (h : s ≠ []) : Kase (3, s, n)
  | stopN (n : Int) (hn : n ≠ 0) : Kase (3, [], n)
  | no (k : Int) (s : Str) (n : Int) (h1 : k ≠ 1) (h2 : k ≠ 2) (h3 : k ≠ 3) : Kase (k, s, n)
theorem kase (x : Op) : Kase x := by
  obtain ⟨k, s, n⟩ := x
  by_cases h1 : k = 1
  · subst h1
    by_cases hs : s = []
    · subst hs; exact .send0 n
    · by_cases hn : n = 0
      · subst hn; exact .send s hs
      · exact .sendN s n hs hn
  by_cases h2 : k = 2
  · subst h2
    by_cases hs : s = []
    · subst hs
      by_cases hn : n ≤ 0
      · exact .waitN n hn
      · have := Kase.wait n.toNat (by omega)
        rw [show ((n.toNat : Nat) : Int) = n by omega] at this
        exact this
    · exact .wait0 s n hs
  by_cases h3 : k = 3
  · subst h3
    by_cases hs : s = []
    · subst hs
      by_cases hn : n = 0
      · subst hn; exact .stop
      · exact .stopN n hn
    · exact .stop0 s n hs
  · exact .no k s n h1 h2 h3
end Brk
end Go.Proofs.Ytnfkkonmhinlcaa
