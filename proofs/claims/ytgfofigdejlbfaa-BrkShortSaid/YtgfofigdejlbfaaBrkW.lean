/- Package brk: steps as ops, joined, and as text. Printed by gen_brkw.py. -/
import Derived.Test.YtgfofigdejlbfaaBrkV
import Derived.Deep.LoopGhost
namespace Go.Proofs.Ytgfofigdejlbfaa
open Go.RowKit
set_option linter.unusedVariables false
set_option linter.unusedSimpArgs false
namespace Brk
open Digit
def vOp (x : Op) : Value := .agg #[.int .i64 x.1, .string ⟨x.2.1.toArray⟩, .int .i64 x.2.2]
theorem op_sends (s : Str) (w : World) : Calls Try.prog 54 #[.string ⟨s.toArray⟩] w fun e w' => e = .returned (vOp (1, s, 0)) ∧ Fr No w w' := by
  go_enter Try.func54, Try.ntmps54
  go_wp2
  refine bodyPost_ret (v := .agg #[.int .i64 1, .string ⟨s.toArray⟩, .int .i64 0]) ?_ rfl ⟨rfl, by first | exact (Fr.refl _ _).alloc _ | exact ((Fr.refl _ _).alloc _).alloc _⟩
  (simp [results, Try.f54, go_sem]; try rfl)
theorem op_waits (n : Int) (w : World) : Calls Try.prog 55 #[.int .i64 n] w fun e w' => e = .returned (vOp (2, [], n)) ∧ Fr No w w' := by
  go_enter Try.func55, Try.ntmps55
  go_wp2
  refine bodyPost_ret (v := .agg #[.int .i64 2, .string ByteArray.empty, .int .i64 n]) ?_ rfl ⟨rfl, by first | exact (Fr.refl _ _).alloc _ | exact ((Fr.refl _ _).alloc _).alloc _⟩
  (simp [results, Try.f55, go_sem]; try rfl)
theorem op_stops  (w : World) : Calls Try.prog 56 #[.agg #[]] w fun e w' => e = .returned (vOp (3, [], 0)) ∧ Fr No w w' := by
  go_enter Try.func56, Try.ntmps56
  go_wp2
  refine bodyPost_ret (v := .agg #[.int .i64 3, .string ByteArray.empty, .int .i64 0]) ?_ rfl ⟨rfl, by first | exact (Fr.refl _ _).alloc _ | exact ((Fr.refl _ _).alloc _).alloc _⟩
  (simp [results, Try.f56, go_sem]; try rfl)
theorem as_send_send (s : Str) (w : World) : (Instr.typeAssert (.iface 49 (.string ⟨s.toArray⟩)) 38 49 true).run Try.prog w = .ok (.tuple #[.string ⟨s.toArray⟩, .bool true]) w := by kernel_rfl
theorem as_send_wait (s : Str) (w : World) : (Instr.typeAssert (.iface 49 (.string ⟨s.toArray⟩)) 38 51 true).run Try.prog w = .ok (.tuple #[.int .i64 0, .bool false]) w := by kernel_rfl
theorem as_wait_send (n : Int) (w : World) : (Instr.typeAssert (.iface 51 (.int .i64 n)) 38 49 true).run Try.prog w = .ok (.tuple #[.string ByteArray.empty, .bool false]) w := by kernel_rfl
theorem as_wait_wait (n : Int) (w : World) : (Instr.typeAssert (.iface 51 (.int .i64 n)) 38 51 true).run Try.prog w = .ok (.tuple #[.int .i64 n, .bool true]) w := by kernel_rfl
theorem as_stop_send  (w : World) : (Instr.typeAssert (.iface 58 (.agg #[])) 38 49 true).run Try.prog w = .ok (.tuple #[.string ByteArray.empty, .bool false]) w := by kernel_rfl
theorem as_stop_wait  (w : World) : (Instr.typeAssert (.iface 58 (.agg #[])) 38 51 true).run Try.prog w = .ok (.tuple #[.int .i64 0, .bool false]) w := by kernel_rfl
def joinV (a b : Op) : Value := if a.1 = b.1 ∧ b.1 < 3 then .tuple #[encI (joinR a b), .bool true] else .tuple #[.nilIface, .bool false]
theorem join_any {a b : Op} (ha : Fine a) (hb : Fine b) (h1 : a.2.1.length + b.2.1.length ≤ 1000000) (h2 : a.2.2 + b.2.2 ≤ 1000000) (w : World) : Calls Try.prog 17 #[encI a, encI b] w fun e w' => e = .returned (joinV a b) ∧ w = w' := by
  cases ha with
  | send s hs =>
    have f1 := as_send_send s
    have f2 := as_send_wait s
    cases hb with
    | send t ht =>
      have f3 := as_send_send t
      rw [show joinV (1, s, 0) (1, t, 0) = .tuple #[.iface 49 (.string ⟨(s ++ t).toArray⟩), .bool true] from rfl, encI_send, encI_send]
      have h1 : s.length + t.length ≤ 1000000 := h1
      have hadd := fun W => Go.run_string_add_sum (P := Try.prog) (w := W) ⟨s.toArray⟩ ⟨t.toArray⟩ (by simp [ByteArray.size]; omega)
      go_enter Try.func17, Try.ntmps17
      go_wp2
      go_ret2
      exact ⟨by first | rfl | simp | simp [ByteArray.ext_iff], rfl⟩
    | wait m hm =>
      have f3 := as_wait_send (m : Nat)
      have f4 := as_wait_wait (m : Nat)
      rw [show joinV (1, s, 0) (2, [], (m : Nat)) = .tuple #[.nilIface, .bool false] from rfl, encI_send, encI_wait]
      go_enter Try.func17, Try.ntmps17
      go_wp2
      go_ret2
      exact ⟨rfl, rfl⟩
    | stop =>
      have f3 := as_stop_send
      have f4 := as_stop_wait
      rw [show joinV (1, s, 0) (3, [], 0) = .tuple #[.nilIface, .bool false] from rfl, encI_send, encI_stop]
      go_enter Try.func17, Try.ntmps17
      go_wp2
      go_ret2
      exact ⟨rfl, rfl⟩
  | wait n hn =>
    have f1 := as_wait_send (n : Nat)
    have f2 := as_wait_wait (n : Nat)
    cases hb with
    | send t ht =>
      have f3 := as_send_send t
      have f4 := as_send_wait t
      rw [show joinV (2, [], (n : Nat)) (1, t, 0) = .tuple #[.nilIface, .bool false] from rfl, encI_send, encI_wait]
      go_enter Try.func17, Try.ntmps17
      go_wp2
      go_ret2
      exact ⟨rfl, rfl⟩
    | wait m hm =>
      have f3 := as_wait_send (m : Nat)
      have f4 := as_wait_wait (m : Nat)
      rw [show joinV (2, [], (n : Nat)) (2, [], (m : Nat)) = .tuple #[.iface 51 (.int .i64 ((n : Int) + (m : Int))), .bool true] from rfl, encI_wait, encI_wait]
      have h2 : (n : Int) + (m : Int) ≤ 1000000 := h2
      go_enter Try.func17, Try.ntmps17
      go_wp2
      go_ret2
      exact ⟨rfl, rfl⟩
    | stop =>
      have f3 := as_stop_send
      have f4 := as_stop_wait
      rw [show joinV (2, [], (n : Nat)) (3, [], 0) = .tuple #[.nilIface, .bool false] from rfl, encI_wait, encI_stop]
      go_enter Try.func17, Try.ntmps17
      go_wp2
      go_ret2
      exact ⟨rfl, rfl⟩
  | stop =>
    have f1 := as_stop_send
    have f2 := as_stop_wait
    rw [show joinV (3, [], 0) b = .tuple #[.nilIface, .bool false] from if_neg (fun h => by have e1 : (3 : Int) = b.1 := h.1; have := h.2; omega), encI_stop]
    generalize encI b = v
    go_enter Try.func17, Try.ntmps17
    go_wp2
    go_ret2
    exact ⟨rfl, rfl⟩
theorem pad_len (m : Nat) (h : m ≤ 9223372036854775807) : (padR (m : Nat) 2).length ≤ 22 := by
  unfold padR
  split
  · simp
  · have := dec_20 (n := (m : Int).natAbs) (by omega)
    rw [List.length_append, List.length_replicate]
    omega
set_option maxHeartbeats 2000000 in
set_option maxRecDepth 100000 in
theorem wait_any (n : Nat) (h1 : 1 ≤ n) (hn : n ≤ 9223372036854775807) (w : World) : Calls Try.prog 26 #[.int .i64 n] w fun e w' => e = .returned (.string ⟨(waitR n).toArray⟩) ∧ Fr No w w' := by
  go_enter Try.func26, Try.ntmps26
  go_wp2
  go_loopg [0, 3] 64 (fun g nv sv wr => ∃ (k m : Nat) (r : Str), nv = .int .i64 m ∧ sv = .string ⟨r.toArray⟩ ∧ r.length = 4 * k ∧ k ≤ 64 ∧ g = 64 - k ∧ 1 ≤ m ∧ m ≤ 9223372036854775807 ∧ Hid (r = rep k ∧ cntG (64 - k) k m = cnt n ∧ m + 99 * k = n) ∧ Hid (Fr No w wr))
  case atStart => exact ⟨0, n, [], rfl, rfl, rfl, by omega, by omega, h1, hn, ⟨rfl, rfl, by omega⟩, Fr.refl _ _⟩
  case round =>
    obtain ⟨k, m, r, rfl, rfl, hrl, hk, hgk, hm1, hm2, HK, HF⟩ := hrel
    by_cases hc : 99 < m ∧ 4 * k ≤ 255
    · obtain ⟨q, rfl⟩ : ∃ q, m = q + 99 := ⟨m - 99, by omega⟩
      have hk2 : k < 64 := by omega
      have HK2 := Lib.hid (show r ++ [92, 119, 57, 57] = rep (k + 1) ∧ cntG (64 - (k + 1)) (k + 1) q = cnt n ∧ q + 99 * (k + 1) = n from ⟨by rw [HK.out.1]; rfl, by
        have h2 := HK.out.2.1
        rw [show 64 - k = 64 - (k + 1) + 1 by omega, cntG_on _ _ _ hc] at h2
        simpa using h2, by have := HK.out.2.2; omega⟩)
      obtain ⟨hc1, hc2⟩ := hc
      go_wp2
      go_roundg (64 - (k + 1))
      case measure => omega
      case rel => exact ⟨k + 1, q, r ++ [92, 119, 57, 57], by first | rfl | go_num | (simp; done) | (congr 1; omega), by first | rfl | (simp; done) | (simp [ByteArray.ext_iff]; done), by simp [hrl]; omega, by omega, rfl, by omega, by omega, HK2, by first | exact HF | exact HF.out⟩
    · have hcn : cnt n = k := by rw [← HK.out.2.1, cntG_stop _ _ _ hc]
      have hmn : n - 99 * k = m := by have := HK.out.2.2; omega
      have HW := Lib.hid (show waitR n = if m = 1 then r ++ [92, 100] else r ++ [92, 119] ++ padR (m : Nat) 2 by unfold waitR; rw [hcn, hmn, HK.out.1])
      have hpl : (padR (m : Nat) 2).length ≤ 22 := pad_len m hm2
      by_cases hm : m = 1
      · subst hm
        have HW1 := Lib.hid (show waitR n = r ++ [92, 100] by rw [HW.out, if_pos rfl])
        clear HW hcn hmn
        go_wp2
        go_ret
        rw [HW1.out]
        exact ⟨by first | rfl | (simp; done) | (simp [ByteArray.ext_iff]; done), HF.out⟩
      · have hme : ((m : Int) == 1) = false := by simp; omega
        have hp := fun W => pad_any (m : Nat) 2 (by omega) (by omega) W
        have HW2 := Lib.hid (show waitR n = r ++ [92, 119] ++ padR (m : Nat) 2 by rw [HW.out, if_neg hm])
        generalize padR (m : Nat) 2 = p at hp HW2 hpl
        clear HW hcn hmn
        rcases (show 99 < m ∧ 255 < r.length ∨ m ≤ 99 by omega) with ⟨hz, hz2⟩ | hz
        all_goals
          go_wp2_with (go_at_call 33; refine (hp _).mono ?_; rintro e w1 ⟨rfl, hf⟩)
          go_ret
          rw [HW2.out]
          exact ⟨by first | rfl | (simp; done) | (simp [ByteArray.ext_iff]; done), HF.out.then_no hf⟩
theorem text_no {x : Op} (h : textR x = none) : tx x = [] := by unfold tx; rw [h]; rfl
theorem text_yes {x : Op} {t : Str} (h : textR x = some t) : tx x = t := by unfold tx; rw [h]; rfl
/-- The cases of an op. -/
inductive Kase : Op → Prop
  | send (s : Str) (h : s ≠ []) : Kase (1, s, 0)
  | send0 (n : Int) : Kase (1, [], n)
  | sendN (s : Str) (n : Int) (h : s ≠ []) (hn : n ≠ 0) : Kase (1, s, n)
  | wait (n : Nat) (h : 1 ≤ n) : Kase (2, [], (n : Nat))
  | wait0 (s : Str) (n : Int) (h : s ≠ []) : Kase (2, s, n)
  | waitN (n : Int) (hn : n ≤ 0) : Kase (2, [], n)
  | stop : Kase (3, [], 0)
  | stop0 (s : Str) (n : Int) (h : s ≠ []) : Kase (3, s, n)
  | stopN (n : Int) (hn : n ≠ 0) : Kase (3, [], n)
  | no (k : Int) (s : Str) (n : Int) (h1 : k ≠ 1) (h2 : k ≠ 2) (h3 : k ≠ 3) : Kase (k, s, n)
theorem kase (x : Op) : Kase x := by
  obtain ⟨k, s, n⟩ := x
  by_cases h1 : k = 1
  · subst h1
    by_cases hs : s = []
    · subst hs; exact .send0 n
    · by_cases hn : n = 0
      · subst hn; exact .send s hs
      · exact .sendN s n hs hn
  by_cases h2 : k = 2
  · subst h2
    by_cases hs : s = []
    · subst hs
      by_cases hn : n ≤ 0
      · exact .waitN n hn
      · have := Kase.wait n.toNat (by omega)
        rw [show ((n.toNat : Nat) : Int) = n by omega] at this
        exact this
    · exact .wait0 s n hs
  by_cases h3 : k = 3
  · subst h3
    by_cases hs : s = []
    · subst hs
      by_cases hn : n = 0
      · subst hn; exact .stop
      · exact .stopN n hn
    · exact .stop0 s n hs
  · exact .no k s n h1 h2 h3
set_option maxHeartbeats 4000000 in
set_option maxRecDepth 100000 in
theorem text_any (x : Op) (hs : x.2.1.length ≤ 1000) (hn : x.2.2 ≤ 9223372036854775807) (w : World) : Calls Try.prog 19 #[vOp x] w fun e w' => e = .returned (.tuple #[.string ⟨(tx x).toArray⟩, .bool (textR x).isSome]) ∧ Fr No w w' := by
  cases kase x with
  | send s hse =>
    have hr : textR (1, s, 0) = some (showR s) := text_send hse
    rw [text_yes hr, hr]
    clear hr
    rw [show vOp (1, s, 0) = .agg #[.int .i64 1, .string ⟨s.toArray⟩, .int .i64 0] from rfl]
    have hsb : s.isEmpty = false := by simpa using hse
    have hsc : (s == []) = false := by simpa using hse
    clear hse
    have hs : s.length ≤ 1000 := hs
    have hc := fun W => show_any s W (by omega)
    generalize showR s = p at hc ⊢
    go_enter Try.func19, Try.ntmps19
    go_wp2_with (go_at_call 25; refine (hc _).mono ?_; rintro e w1 ⟨rfl, hf⟩)
    go_ret2
    exact ⟨rfl, by first | exact ((Fr.refl _ _).alloc _).then_no hf⟩
  | send0 n =>
    have hr : textR (1, [], n) = none := by simp [textR]
    rw [text_no hr, hr]
    clear hr
    rw [show vOp (1, [], n) = .agg #[.int .i64 1, .string ByteArray.empty, .int .i64 n] from rfl]
    go_enter Try.func19, Try.ntmps19
    go_wp2
    all_goals first | (exfalso; omega) | (go_ret2; exact ⟨rfl, (Fr.refl _ _).alloc _⟩)
  | sendN s n hse hnz =>
    have hr : textR (1, s, n) = none := by simp [textR, hnz]
    rw [text_no hr, hr]
    clear hr
    rw [show vOp (1, s, n) = .agg #[.int .i64 1, .string ⟨s.toArray⟩, .int .i64 n] from rfl]
    have hsb : s.isEmpty = false := by simpa using hse
    have hsc : (s == []) = false := by simpa using hse
    clear hse
    have hnb : (n == 0) = false := by simpa using hnz
    clear hnz
    go_enter Try.func19, Try.ntmps19
    go_wp2
    all_goals first | (exfalso; omega) | (go_ret2; exact ⟨rfl, (Fr.refl _ _).alloc _⟩)
  | wait n h1 =>
    have hr : textR (2, [], (n : Int)) = some (waitR n) := text_wait h1
    rw [text_yes hr, hr]
    clear hr
    rw [show vOp (2, [], (n : Int)) = .agg #[.int .i64 2, .string ByteArray.empty, .int .i64 (n : Int)] from rfl]
    have hn : (n : Int) ≤ 9223372036854775807 := hn
    have hc := fun W => wait_any n h1 (by omega) W
    generalize waitR n = p at hc ⊢
    have hn0 : 0 < n := h1
    go_enter Try.func19, Try.ntmps19
    go_wp2_with (go_at_call 26; refine (hc _).mono ?_; rintro e w1 ⟨rfl, hf⟩)
    go_ret2
    exact ⟨rfl, ((Fr.refl _ _).alloc _).then_no hf⟩
  | wait0 s n hse =>
    have hr : textR (2, s, n) = none := by simp [textR, hse]
    rw [text_no hr, hr]
    clear hr
    rw [show vOp (2, s, n) = .agg #[.int .i64 2, .string ⟨s.toArray⟩, .int .i64 n] from rfl]
    have hsb : s.isEmpty = false := by simpa using hse
    have hsc : (s == []) = false := by simpa using hse
    clear hse
    go_enter Try.func19, Try.ntmps19
    go_wp2
    all_goals first | (exfalso; omega) | (go_ret2; exact ⟨rfl, (Fr.refl _ _).alloc _⟩)
  | waitN n hnz =>
    have hr : textR (2, [], n) = none := by (unfold textR; rw [if_neg (by simp), if_neg (by simp; omega), if_neg (by simp)])
    rw [text_no hr, hr]
    clear hr
    rw [show vOp (2, [], n) = .agg #[.int .i64 2, .string ByteArray.empty, .int .i64 n] from rfl]
    go_enter Try.func19, Try.ntmps19
    go_wp2
    all_goals first | (exfalso; omega) | (go_ret2; exact ⟨rfl, (Fr.refl _ _).alloc _⟩)
  | stop  =>
    have hr : textR (3, [], 0) = some ([92, 122]) := rfl
    rw [text_yes hr, hr]
    clear hr
    rw [show vOp (3, [], 0) = .agg #[.int .i64 3, .string ByteArray.empty, .int .i64 0] from rfl]
    go_enter Try.func19, Try.ntmps19
    go_wp2
    all_goals first | (exfalso; omega) | (go_ret2; exact ⟨rfl, (Fr.refl _ _).alloc _⟩)
  | stop0 s n hse =>
    have hr : textR (3, s, n) = none := by simp [textR, hse]
    rw [text_no hr, hr]
    clear hr
    rw [show vOp (3, s, n) = .agg #[.int .i64 3, .string ⟨s.toArray⟩, .int .i64 n] from rfl]
    have hsb : s.isEmpty = false := by simpa using hse
    have hsc : (s == []) = false := by simpa using hse
    clear hse
    go_enter Try.func19, Try.ntmps19
    go_wp2
    all_goals first | (exfalso; omega) | (go_ret2; exact ⟨rfl, (Fr.refl _ _).alloc _⟩)
  | stopN n hnz =>
    have hr : textR (3, [], n) = none := by simp [textR, hnz]
    rw [text_no hr, hr]
    clear hr
    rw [show vOp (3, [], n) = .agg #[.int .i64 3, .string ByteArray.empty, .int .i64 n] from rfl]
    have hnb : (n == 0) = false := by simpa using hnz
    clear hnz
    go_enter Try.func19, Try.ntmps19
    go_wp2
    all_goals first | (exfalso; omega) | (go_ret2; exact ⟨rfl, (Fr.refl _ _).alloc _⟩)
  | no k s n g1 g2 g3 =>
    have hr : textR (k, s, n) = none := by simp [textR, g1, g2, g3]
    rw [text_no hr, hr]
    clear hr
    rw [show vOp (k, s, n) = .agg #[.int .i64 k, .string ⟨s.toArray⟩, .int .i64 n] from rfl]
    have b1 : (k == 1) = false := by simpa using g1
    have d1 : (k != 1) = true := by simpa using g1
    have b2 : (k == 2) = false := by simpa using g2
    have d2 : (k != 2) = true := by simpa using g2
    have b3 : (k == 3) = false := by simpa using g3
    have d3 : (k != 3) = true := by simpa using g3
    clear g1 g2 g3
    go_enter Try.func19, Try.ntmps19
    go_wp2
    all_goals first | (exfalso; omega) | (go_ret2; exact ⟨rfl, (Fr.refl _ _).alloc _⟩)
set_option maxHeartbeats 4000000 in
set_option maxRecDepth 100000 in
theorem rtext_any (x : Op) (hs : x.2.1.length ≤ 1000) (hn : x.2.2 ≤ 9223372036854775807) (w : World) : Calls Try.prog 20 #[vOp x] w fun e w' => e = .returned (.tuple #[.string ⟨(tx x).toArray⟩, .bool (textR x).isSome]) ∧ Fr No w w' := by
  cases kase x with
  | send s hse =>
    have hr : textR (1, s, 0) = some (showR s) := text_send hse
    rw [text_yes hr, hr]
    clear hr
    rw [show vOp (1, s, 0) = .agg #[.int .i64 1, .string ⟨s.toArray⟩, .int .i64 0] from rfl]
    have hsb : s.isEmpty = false := by simpa using hse
    have hsc : (s == []) = false := by simpa using hse
    clear hse
    have hs : s.length ≤ 1000 := hs
    have hc := fun W => rshow_any s W (by omega)
    generalize showR s = p at hc ⊢
    go_enter Try.func20, Try.ntmps20
    go_wp2_with (go_at_call 24; refine (hc _).mono ?_; rintro e w1 ⟨rfl, hf⟩)
    go_ret2
    exact ⟨rfl, by first | exact ((Fr.refl _ _).alloc _).then_no hf⟩
  | send0 n =>
    have hr : textR (1, [], n) = none := by simp [textR]
    rw [text_no hr, hr]
    clear hr
    rw [show vOp (1, [], n) = .agg #[.int .i64 1, .string ByteArray.empty, .int .i64 n] from rfl]
    go_enter Try.func20, Try.ntmps20
    go_wp2
    all_goals first | (exfalso; omega) | (go_ret2; exact ⟨rfl, (Fr.refl _ _).alloc _⟩)
  | sendN s n hse hnz =>
    have hr : textR (1, s, n) = none := by simp [textR, hnz]
    rw [text_no hr, hr]
    clear hr
    rw [show vOp (1, s, n) = .agg #[.int .i64 1, .string ⟨s.toArray⟩, .int .i64 n] from rfl]
    have hsb : s.isEmpty = false := by simpa using hse
    have hsc : (s == []) = false := by simpa using hse
    clear hse
    have hnb : (n == 0) = false := by simpa using hnz
    clear hnz
    go_enter Try.func20, Try.ntmps20
    go_wp2
    all_goals first | (exfalso; omega) | (go_ret2; exact ⟨rfl, (Fr.refl _ _).alloc _⟩)
  | wait n h1 =>
    have hr : textR (2, [], (n : Int)) = some (waitR n) := text_wait h1
    rw [text_yes hr, hr]
    clear hr
    rw [show vOp (2, [], (n : Int)) = .agg #[.int .i64 2, .string ByteArray.empty, .int .i64 (n : Int)] from rfl]
    have hn : n ≤ 9223372036854775807 := by have hn : (n : Int) ≤ 9223372036854775807 := hn; omega
    go_enter Try.func20, Try.ntmps20
    go_wp2
    go_loopg [4, 5] 64 (fun g sv nv wr => ∃ (k m : Nat) (r : Str), nv = .int .i64 m ∧ sv = .string ⟨r.toArray⟩ ∧ r.length = 4 * k ∧ k ≤ 64 ∧ g = 64 - k ∧ 1 ≤ m ∧ m ≤ 9223372036854775807 ∧ Hid (r = rep k ∧ cntG (64 - k) k m = cnt n ∧ m + 99 * k = n) ∧ Hid (Fr No w wr))
    case atStart => exact ⟨0, n, [], rfl, rfl, rfl, by omega, by omega, h1, hn, ⟨rfl, rfl, by omega⟩, (Fr.refl _ _).alloc _⟩
    case round =>
      obtain ⟨k, m, r, rfl, rfl, hrl, hk, hgk, hm1, hm2, HK, HF⟩ := hrel
      by_cases hc : 99 < m ∧ 4 * k ≤ 255
      · obtain ⟨q, rfl⟩ : ∃ q, m = q + 99 := ⟨m - 99, by omega⟩
        have hk2 : k < 64 := by omega
        have HK2 := Lib.hid (show r ++ [92, 119, 57, 57] = rep (k + 1) ∧ cntG (64 - (k + 1)) (k + 1) q = cnt n ∧ q + 99 * (k + 1) = n from ⟨by rw [HK.out.1]; rfl, by
          have h2 := HK.out.2.1
          rw [show 64 - k = 64 - (k + 1) + 1 by omega, cntG_on _ _ _ hc] at h2
          simpa using h2, by have := HK.out.2.2; omega⟩)
        obtain ⟨hc1, hc2⟩ := hc
        go_wp2
        go_roundg (64 - (k + 1))
        case measure => omega
        case rel => exact ⟨k + 1, q, r ++ [92, 119, 57, 57], by first | rfl | go_num | (simp; done) | (congr 1; omega), by first | rfl | (simp; done) | (simp [ByteArray.ext_iff]; done), by simp [hrl]; omega, by omega, rfl, by omega, by omega, HK2, by first | exact HF | exact HF.out⟩
      · have hcn : cnt n = k := by rw [← HK.out.2.1, cntG_stop _ _ _ hc]
        have hmn : n - 99 * k = m := by have := HK.out.2.2; omega
        have HW := Lib.hid (show waitR n = if m = 1 then r ++ [92, 100] else r ++ [92, 119] ++ padR (m : Nat) 2 by unfold waitR; rw [hcn, hmn, HK.out.1])
        have hpl : (padR (m : Nat) 2).length ≤ 22 := pad_len m hm2
        by_cases hm : m = 1
        · subst hm
          have HW1 := Lib.hid (show waitR n = r ++ [92, 100] by rw [HW.out, if_pos rfl])
          clear HW hcn hmn
          go_wp2
          go_ret2
          rw [HW1.out]
          exact ⟨by first | rfl | (simp; done) | (simp [ByteArray.ext_iff]; done), HF.out⟩
        · have hme : ((m : Int) == 1) = false := by simp; omega
          have hp := fun W => rpad_any (m : Nat) 2 (by omega) (by omega) W
          have HW2 := Lib.hid (show waitR n = r ++ [92, 119] ++ padR (m : Nat) 2 by rw [HW.out, if_neg hm])
          generalize padR (m : Nat) 2 = p at hp HW2 hpl
          clear HW hcn hmn
          rcases (show 99 < m ∧ 255 < r.length ∨ m ≤ 99 by omega) with ⟨hz, hz2⟩ | hz
          all_goals
            go_wp2_with (go_at_call 22; refine (hp _).mono ?_; rintro e w1 ⟨rfl, hf⟩)
            go_ret2
            rw [HW2.out]
            exact ⟨by first | rfl | (simp; done) | (simp [ByteArray.ext_iff]; done), HF.out.then_no hf⟩
  | wait0 s n hse =>
    have hr : textR (2, s, n) = none := by simp [textR, hse]
    rw [text_no hr, hr]
    clear hr
    rw [show vOp (2, s, n) = .agg #[.int .i64 2, .string ⟨s.toArray⟩, .int .i64 n] from rfl]
    have hsb : s.isEmpty = false := by simpa using hse
    have hsc : (s == []) = false := by simpa using hse
    clear hse
    go_enter Try.func20, Try.ntmps20
    go_wp2
    all_goals first | (exfalso; omega) | (go_ret2; exact ⟨rfl, (Fr.refl _ _).alloc _⟩)
  | waitN n hnz =>
    have hr : textR (2, [], n) = none := by (unfold textR; rw [if_neg (by simp), if_neg (by simp; omega), if_neg (by simp)])
    rw [text_no hr, hr]
    clear hr
    rw [show vOp (2, [], n) = .agg #[.int .i64 2, .string ByteArray.empty, .int .i64 n] from rfl]
    go_enter Try.func20, Try.ntmps20
    go_wp2
    all_goals first | (exfalso; omega) | (go_ret2; exact ⟨rfl, (Fr.refl _ _).alloc _⟩)
  | stop  =>
    have hr : textR (3, [], 0) = some ([92, 122]) := rfl
    rw [text_yes hr, hr]
    clear hr
    rw [show vOp (3, [], 0) = .agg #[.int .i64 3, .string ByteArray.empty, .int .i64 0] from rfl]
    go_enter Try.func20, Try.ntmps20
    go_wp2
    all_goals first | (exfalso; omega) | (go_ret2; exact ⟨rfl, (Fr.refl _ _).alloc _⟩)
  | stop0 s n hse =>
    have hr : textR (3, s, n) = none := by simp [textR, hse]
    rw [text_no hr, hr]
    clear hr
    rw [show vOp (3, s, n) = .agg #[.int .i64 3, .string ⟨s.toArray⟩, .int .i64 n] from rfl]
    have hsb : s.isEmpty = false := by simpa using hse
    have hsc : (s == []) = false := by simpa using hse
    clear hse
    go_enter Try.func20, Try.ntmps20
    go_wp2
    all_goals first | (exfalso; omega) | (go_ret2; exact ⟨rfl, (Fr.refl _ _).alloc _⟩)
  | stopN n hnz =>
    have hr : textR (3, [], n) = none := by simp [textR, hnz]
    rw [text_no hr, hr]
    clear hr
    rw [show vOp (3, [], n) = .agg #[.int .i64 3, .string ByteArray.empty, .int .i64 n] from rfl]
    have hnb : (n == 0) = false := by simpa using hnz
    clear hnz
    go_enter Try.func20, Try.ntmps20
    go_wp2
    all_goals first | (exfalso; omega) | (go_ret2; exact ⟨rfl, (Fr.refl _ _).alloc _⟩)
  | no k s n g1 g2 g3 =>
    have hr : textR (k, s, n) = none := by simp [textR, g1, g2, g3]
    rw [text_no hr, hr]
    clear hr
    rw [show vOp (k, s, n) = .agg #[.int .i64 k, .string ⟨s.toArray⟩, .int .i64 n] from rfl]
    have b1 : (k == 1) = false := by simpa using g1
    have d1 : (k != 1) = true := by simpa using g1
    have b2 : (k == 2) = false := by simpa using g2
    have d2 : (k != 2) = true := by simpa using g2
    have b3 : (k == 3) = false := by simpa using g3
    have d3 : (k != 3) = true := by simpa using g3
    clear g1 g2 g3
    go_enter Try.func20, Try.ntmps20
    go_wp2
    all_goals first | (exfalso; omega) | (go_ret2; exact ⟨rfl, (Fr.refl _ _).alloc _⟩)
end Brk
end Go.Proofs.Ytgfofigdejlbfaa
